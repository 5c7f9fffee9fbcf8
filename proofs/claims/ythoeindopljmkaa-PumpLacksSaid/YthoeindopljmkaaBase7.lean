/- Words and contracts for a claim. -/
import Derived.Test.YthoeindopljmkaaBase6
import Derived.StillTailTactics
section
namespace Go.Proofs.Ythoeindopljmkaa.P
open Go.RowKit Go.Proofs.YthoeindopljmkaaW.PrintWords Go.Proofs.YthoeindopljmkaaW.PrintLast Go.Proofs.YthoeindopljmkaaW.PrintMore
attribute [local go_sem] max2_int min2_int max_two min_two max_three min_three max_four min_four
set_option linter.unusedVariables false
set_option linter.unusedSimpArgs false
def mixN (b o : List Int) (n : Int) : Nat → Int
  | 0 => rd b n
  | k + 1 => if wrap64 (rd b (n - k) + rd o k) < mixN b o n k then wrap64 (rd b (n - k) + rd o k) else mixN b o n k
def mixF (b o : List Int) (ticks : Int) : List Int := (List.range (ticks + 1).toNat).map fun n : Nat => mixN b o n (n + 1)
def regStep (ticks : Int) (acc : List S115) (l : List S71) : Option (List S115) :=
  (tabled_least.f l ticks).bind fun t => if (t.1.length : Int) = ticks + 1 then some (acc ++ [⟨l, t.1, if acc = [] then t.1 else mixF (rd_T115 acc (acc.length - 1)).f2 t.1 ticks⟩]) else none
def regs.f (ls : List (List S71)) (ticks : Int) : Option (List S115) := if 0 ≤ ticks ∧ ticks ≤ 1000 ∧ ls.length ≤ 1000 then ls.foldlM (regStep ticks) [] else none
theorem info115 : (Try.prog.info? 115).map (fun i => (i.zero, i.size, i.bytes)) = some (some (.agg #[.slice none 0 0, .slice none 0 0, .slice none 0 0]), 3, 72) := by kernel_rfl
def kR (B : Nat) : Kd (List Int) where
  sz := 1
  E := []
  K := fun w x cs => ∃ v, cs = [v] ∧ (Kd.int .i64).R 3 w B (fun _ => True) v x
  M := fun _ _ _ _ _ => False
  K_len := by
    rintro w x cs ⟨v, rfl, _⟩
    rfl
  K_one := by
    rintro w x cs ⟨v, rfl, h⟩ u hu
    rw [List.mem_singleton.1 hu]
    exact (Kd.R_val h).2
  K_below := by
    rintro w w1 x cs hb ⟨v, rfl, h⟩
    exact ⟨v, rfl, Kd.R_below h hb⟩
  K_of_M := fun h => h.elim
  M_mono := fun _ h => h
  M_bound := fun h => h.elim
  M_move := fun _ h => h
  M_lower := fun _ h => h
def kReg (B : Nat) : Kd S115 := Kd.iso (Kd.pair (Kd.slice 71 k71) (Kd.pair (kR B) (kR B))) (fun x : S115 => (x.f0, x.f1, x.f2))
theorem kReg_K {B : Nat} {w : World} {x : S115} {cs : List Value} (h : (kReg B).K w x cs) : k115.K w x cs := by
  obtain ⟨_, _, rfl, h0, _, _, rfl, ⟨v1, rfl, g1⟩, ⟨v2, rfl, g2⟩⟩ := h
  obtain ⟨A1, c1, rfl⟩ := Kd.R_slice g1
  obtain ⟨A2, c2, rfl⟩ := Kd.R_slice g2
  exact ⟨_, _, rfl, h0, _, _, rfl, ⟨A1, c1, rfl, (Kd.R_reads' g1).2.1, (Kd.R_reads' g1).2.2⟩, ⟨A2, c2, rfl, (Kd.R_reads' g2).2.1, (Kd.R_reads' g2).2.2⟩⟩
theorem kReg_C {B n : Nat} {w : World} {A : Option Addr} {xs : List S115} (h : Kd.C (kReg B) w A n xs) : Kd.C k115 w A n xs :=
  ReadsRow.imp_ h (Below.refl _ _) (fun _ _ => kReg_K)
theorem kReg_mkF {B : Nat} {W : World} {ok o1 o2 : Nat → Prop} (x : S115) {A0 : Option Addr} {c0 : Nat} {v1 v2 : Value} (l0 : x.f0.length ≤ c0) (g0 : Kd.F k71 W ok A0 x.f0.length x.f0)
    (h1 : (Kd.int .i64).R 3 W B o1 v1 x.f1) (p1 : ∀ k, o1 k → ok k) (h2 : (Kd.int .i64).R 3 W B o2 v2 x.f2) (p2 : ∀ k, o2 k → ok k) : Kd.FK (kReg B) W ok x [.slice A0 x.f0.length c0, v1, v2] := fun W' hW =>
  ⟨[.slice A0 x.f0.length c0], [v1, v2], rfl, ⟨A0, c0, rfl, l0, g0 W' hW⟩, [v1], [v2], rfl, ⟨v1, rfl, Kd.R_mono (Kd.R_step h1 (fun k hk hlt => hW k (p1 k hk) hlt)) (fun _ _ => trivial)⟩, ⟨v2, rfl, Kd.R_mono (Kd.R_step h2 (fun k hk hlt => hW k (p2 k hk) hlt)) (fun _ _ => trivial)⟩⟩
def Long (ticks : Int) (acc : List S115) : Prop := ∀ x ∈ acc, (x.f2.length : Int) = ticks + 1
theorem far_old {α : Type} {d : Kd α} {wr W : World} {z n : Nat} {own : Option Nat} {A : Option Addr} {xs : List α} (h : Kd.F d wr (fun k => k < z) A n xs) (hb : Below wr.heap.size wr W) (ho : ∀ k, own = some k → z ≤ k) : Kd.F d W (fun k => some k ≠ own) A n xs :=
  Kd.F_mono (Kd.F_below h hb) (fun k hk he => Nat.lt_irrefl _ (Nat.lt_of_lt_of_le hk (ho k he.symm)))
theorem set_ne (W : World) (g j : Nat) (u : Value) (k : Nat) (h : g < k) : (W.setCell ⟨g, j, none⟩ u).heap[k]? = W.heap[k]? := Below.heap_setCell W ⟨g, j, none⟩ u k (fun e => by have : k = g := e; omega)
theorem field107 (v0 v1 : Value) (w : World) : Sem.run Try.prog (Instr.field 107 (.agg #[v0, v1]) 0) w = .ok v0 w := by
  unfold Instr.field
  have i := Try.isAgg30
  simp [go_sem, part, i, asAgg]
attribute [local go_sem] field107
theorem blk_both {W w9 : World} {g : Nat} {o : Obj} (h : W.heap[g]? = some o) (hb : Below W.heap.size W w9) : w9.heap[g]? = some o ∧ g < W.heap.size := by
  have h2 := (Array.getElem?_eq_some_iff.1 h).1
  exact ⟨(hb.block g h2).trans h, h2⟩
theorem long_snoc {ticks : Int} {acc : List S115} {x : S115} (h : Long ticks acc) (hx : (x.f2.length : Int) = ticks + 1) : Long ticks (acc ++ [x]) := by
  intro y hy
  rcases List.mem_append.1 hy with hy | hy
  · exact h y hy
  · rw [List.mem_singleton.1 hy]; exact hx
theorem long_rd {ticks i : Int} {acc : List S115} (h : Long ticks acc) (h0 : 0 ≤ i) (h1 : i < acc.length) : ((rd_T115 acc i).f2.length : Int) = ticks + 1 := by
  refine h _ ?_
  unfold rd_T115
  rw [List.getD_eq_getElem?_getD, List.getElem?_eq_getElem (by omega)]
  exact List.getElem_mem _
theorem ne_lt {a b c : Nat} (h : a < b) (k : b ≤ c) : a ≠ c := by omega
theorem size_set (W : World) (p : Addr) (u : Value) : (W.setCell p u).heap.size = W.heap.size := by unfold World.setCell; simp
def mixAt (b o : List Int) (m q : Nat) : List Int := (List.range m).map fun j => if j < q then mixN b o j (j + 1) else 0
theorem mixAt_zero (b o : List Int) (m : Nat) : mixAt b o m 0 = List.replicate m 0 := by
  unfold mixAt
  rw [List.map_congr_left (g := fun _ => (0 : Int)) (fun j _ => by simp), List.map_const', List.length_range]
theorem mixAt_len (b o : List Int) (m q : Nat) : (mixAt b o m q).length = m := by simp [mixAt]
theorem rd_set_same (l : List Int) (q v : Int) (h : q.toNat < l.length) : rd (l.set q.toNat v) q = v := by
  unfold rd
  rw [List.getD_eq_getElem?_getD, List.getElem?_set_self (by simpa using h)]; rfl
theorem mixAt_succ {b o : List Int} {m : Nat} {q : Int} (h0 : 0 ≤ q) (h1 : q < m) : mixAt b o m (q + 1).toNat = (mixAt b o m q.toNat).set q.toNat (mixN b o q (q.toNat + 1)) := by
  refine List.ext_getElem (by simp [mixAt]) (fun j hj hj2 => ?_)
  have hjm : j < m := by simpa [mixAt] using hj
  rw [List.getElem_set]
  simp only [mixAt, List.getElem_map, List.getElem_range]
  by_cases e : q.toNat = j
  · rw [if_pos e, if_pos (by omega), ← e, show ((q.toNat : Nat) : Int) = q by omega]
  · rw [if_neg e]
    by_cases c : j < q.toNat
    · rw [if_pos c, if_pos (by omega)]
    · rw [if_neg c, if_neg (by omega)]
theorem below_setz {n : Nat} {A B : World} (h : Below n A B) (g j : Nat) (u : Value) (hg : n ≤ g) : Below n A (B.setCell ⟨g, j, none⟩ u) :=
  ⟨h.os, h.tape, h.output, by rw [size_set]; exact h.size, fun k hk => (Below.heap_setCell B ⟨g, j, none⟩ u k (fun e => by have : k = g := e; omega)).trans (h.block k hk)⟩
theorem mixF_at (b o : List Int) (t : Int) : mixF b o t = mixAt b o (t + 1).toNat (t + 1).toNat := by
  unfold mixF mixAt
  refine List.map_congr_left (fun j hj => ?_)
  rw [if_pos (List.mem_range.1 hj)]
theorem below_chain {n m : Nat} {A B C : World} (h : Below n A B) (k : Below m B C) (hn : n ≤ m) : Below n A C :=
  ⟨k.os.trans h.os, k.tape.trans h.tape, k.output.trans h.output, Nat.le_trans h.size k.size, fun i hi => (k.block i (by omega)).trans (h.block i hi)⟩
theorem fold_step {β : Type} {f : β → List S71 → Option β} {l : List (List S71)} {i : Int} {a r : β} {p : 0 ≤ i} {c : i < (l.length : Int)} (h : (l.drop i.toNat).foldlM f a = some r) : ∃ a', f a (rd_L4 l i) = some a' ∧ (l.drop (i + 1).toNat).foldlM f a' = some r := by
  have e : l.drop i.toNat = rd_L4 l i :: l.drop (i + 1).toNat := by
    rw [show (i + 1).toNat = i.toNat + 1 by omega, List.drop_eq_getElem_cons (by omega)]
    congr 1
    unfold rd_L4
    rw [List.getD_eq_getElem?_getD, List.getElem?_eq_getElem (by omega)]; rfl
  rw [e, List.foldlM_cons] at h
  obtain ⟨a', h1, h2⟩ := Option.bind_eq_some_iff.mp h
  exact ⟨a', h1, h2⟩
set_option maxHeartbeats 8000000 in
set_option maxRecDepth 100000 in
theorem regs.callsN (A0_0 : Option Addr) (c0_0 : Nat) (l0_0 : List (List (S71))) (A0_1 : Option Addr) (c0_1 : Nat) (l0_1 : List (List (S71))) (a1 : Int) (r : List S115) (w : World) (hr0_1 : Kd.C (Kd.slice 71 k71) w A0_1 l0_1.length l0_1) (hc0_1 : l0_1.length ≤ c0_1) (h : regs.f l0_1 a1 = some r) :
  Calls Try.prog 71 #[.agg #[.slice A0_0 l0_0.length c0_0, .slice A0_1 l0_1.length c0_1], .int .i64 a1] w fun e w' => ∃ A c, e = .returned (.slice A r.length c) ∧ r.length ≤ c ∧ Kd.C (kReg w.heap.size) w' A r.length r ∧ Below w.heap.size w w' ∧ ∀ ad, A = some ad → w.heap.size ≤ ad.block := by
 have hu40 := Try.underlying40
 have hu115 := Try.underlying115
 unfold regs.f at h
 split at h
 case isFalse => cases h
 rename_i hb
 have HR := zA hr0_1
 have HQ := zA hb
 have H := zA h
 clear hr0_1 h hb
 have HB := zA (Below.refl w.heap.size w)
 go_enter Try.func71, Try.ntmps71
 go_wp2_with (first | ((with_reducible refine gate_dst (N := 2) rfl ?_); refine box_event ?hg (N := 2) ?hd (cs := #[.slice A0_0 l0_0.length c0_0, .slice A0_1 l0_1.length c0_1]) (t := 40) ?hr ?_; (case hd => rfl); (case hg => rfl); (case hr => first | (go_simp; done) | (go_simp; rfl)); intro g2 hg w6 hbox hb; have n0_ := zA (below_step HB.out hb); have n1_ := zA (hbox); have n2_ : Aside0 (w.heap.size ≤ g2) := ⟨by rw [hg]; exact Nat.le_refl _⟩; clear HB; have HB := n0_; have BK := n1_; have GE := n2_; clear n0_ n1_ n2_; clear hb hbox hg; have hcz0 : w6.cell? ⟨g2, 0, none⟩ = some (.slice A0_0 l0_0.length c0_0) := (blk_cell BK.out 0).trans rfl; have hcz1 : w6.cell? ⟨g2, 1, none⟩ = some (.slice A0_1 l0_1.length c0_1) := (blk_cell BK.out 1).trans rfl; have hfz0 := blk_frozen BK.out 0; have hfz1 := blk_frozen BK.out 1))
 go_loopg [5, 15] l0_1.length (fun kq v5 v15 w' => ∃ (i : Int) (acc : List S115), v15 = .int .i64 i ∧ Aside0 (0 ≤ i ∧ (kq : Int) = l0_1.length - i ∧ acc.length = i.toNat ∧ Long a1 acc ∧ (l0_1.drop i.toNat).foldlM (regStep a1) acc = some r) ∧ Aside0 (Kd.N (kReg w.heap.size) 115 w' w.heap.size (fun _ => True) v5 acc) ∧ Aside0 (Below w.heap.size w w'))
 case atStart => exact ⟨0, [], rfl, ⟨by omega, by omega, rfl, fun _ hx => absurd hx (by simp), H.out⟩, ⟨Kd.N_nil _ _ _ _ _⟩, HB⟩
 case round =>
  clear hcz0 hcz1 hfz0 hfz1 BK
  obtain ⟨i, acc, rfl, HI, HN, HB⟩ := hrel
  by_cases c : i < (l0_1.length : Int)
  ·
   have p := HI.out.1
   obtain ⟨ad, Al, cl, e, h0, hl0, hC0⟩ := at_L4 HR.out i p c
   cases e
   obtain ⟨acc', hs, hrest⟩ := fold_step (p := p) (c := c) HI.out.2.2.2.2
   obtain ⟨⟨t1, t2⟩, ht, hs⟩ := Option.bind_eq_some_iff.mp hs
   have hlen : (t1.length : Int) = a1 + 1 ∧ acc' = acc ++ [⟨rd_L4 l0_1 i, t1, if acc = [] then t1 else mixF (rd_T115 acc (acc.length - 1)).f2 t1 a1⟩] := by
    split at hs
    ·
     cases hs; exact ⟨by assumption, rfl⟩
    ·
     cases hs
   clear hs
   have HT := zA ht
   have HL := zA hlen
   have HX := zA hrest
   have HC := zA (show k71.C wr Al (rd_L4 l0_1 i).length (rd_L4 l0_1 i) from Kd.C_below hC0 HB.out)
   have HF := zA (show Kd.F k71 wr (fun k => k < w.heap.size) Al (rd_L4 l0_1 i).length (rd_L4 l0_1 i) from Kd.F_below (Kd.C_F k71_heap hC0) HB.out)
   have HLC := zA hl0
   replace h0 := (HB.out.cell (World.block_lt_of_cell? w _ h0)).trans h0
   have HW := zA (Below.refl wr.heap.size wr)
   clear ht hlen hrest hC0 hl0; generalize rd_L4 l0_1 i = l at *; clear hs
   obtain ⟨Au, cu, eu⟩ := Kd.N_slice HN.out
   subst eu
   by_cases ci : 0 < i
   ·
    have ci2 : decide (0 < i) = true := decide_eq_true ci
    have NG := zA (show ∀ g8 : Nat, wr.heap.size ≤ g8 → ∀ k, g8 < k → some k ≠ (Value.slice Au acc.length cu).ownBlock from fun g8 hg k hk he => by have := Kd.N_lt HN.out k he.symm; omega)
    obtain ⟨j, hj⟩ : ∃ j : Int, i - 1 = j := ⟨_, rfl⟩
    have hwi : IntKind.i64.wrap (i - 1) = j := by rw [i64_w]; unfold wrap64; have := HQ.out; omega
    have p34 : 0 ≤ j := by omega
    have q34 : j < (acc.length : Int) := by have := HI.out.2.2.1; omega
    obtain ⟨adu, B0, d0, B1, d1, B2, d2, eu, b0, b1, b2, _, _, _, _, hBL, hBC⟩ := at_T115 (kReg_C (Kd.N_reads' HN.out).2.2) j p34 q34
    cases eu
    have hLong : ((rd_T115 acc j).f2.length : Int) = a1 + 1 := long_rd HI.out.2.2.2.1 p34 q34
    have HBL := zA hBL
    have HBC := zA hBC
    have HLo := zA hLong
    clear hBL hBC hLong b0 b1; generalize hb9 : (rd_T115 acc j).f2 = b at HBL HBC HLo b2
    have HB9 := zA hb9
    clear hb9
    obtain ⟨m, hm⟩ : ∃ m : Int, a1 + 1 = m := ⟨_, rfl⟩
    have hwm : IntKind.i64.wrap (a1 + 1) = m := by rw [i64_w]; unfold wrap64; have := HQ.out; omega
    have mpos : Aside0 (0 < (List.replicate m.toNat (0 : Int)).length) := ⟨by rw [List.length_replicate]; have := HQ.out; omega⟩
    have m0 : decide (0 ≤ m) = true := decide_eq_true (by have := HQ.out; omega)
    have m1 : decide (m.toNat ≤ 35184372088832) = true := decide_eq_true (by have := HQ.out; omega)
    have HJ := zA hj
    have HM := zA hm
    clear hj hm; replace p34 := eq_true p34; replace q34 := eq_true q34
    go_wp2_with (first
     | ((with_reducible refine gate_dst (N := 8) rfl ?_); refine box_event ?hg (N := 8) ?hd (cs := #[.slice none 0 0, .slice none 0 0, .slice none 0 0]) (t := 115) ?hr ?_; (case hd => rfl); (case hg => rfl); (case hr => first | (go_simp; done) | (go_simp; rfl)); intro g8 hg w8 hbox hb; have n0_ := zA (below_step HW.out hb); have n1_ := zA (hbox); have n2_ : Aside0 (wr.heap.size ≤ g8) := ⟨by rw [hg]; simp⟩; clear HW; have HW := n0_; have BK := n1_; have GE := n2_; clear n0_ n1_ n2_; clear hb hbox hg; have hcz0 : w8.cell? ⟨g8, 0, none⟩ = some (.slice none 0 0) := (blk_cell BK.out 0).trans rfl; have hcz1 : w8.cell? ⟨g8, 1, none⟩ = some (.slice none 0 0) := (blk_cell BK.out 1).trans rfl; have hcz2 : w8.cell? ⟨g8, 2, none⟩ = some (.slice none 0 0) := (blk_cell BK.out 2).trans rfl; have hfz0 := blk_frozen BK.out 0; have hfz1 := blk_frozen BK.out 1; have hfz2 := blk_frozen BK.out 2)
     | (go_at_call 70; refine (tabled_least.calls _ _ l a1 t1 t2 _ (Kd.C_below HC.out (zqG HW.out GE.out)) HLC.out HT.out).mono ?_; rintro e w9 ⟨v0, v1, rfl, ho0, ho1, hb⟩; have nk_ := blk_both (g := g8) (o := .cells #[.slice Al l.length cl, .slice none 0 0, .slice none 0 0] 115 (0, 0)) (by (with_reducible repeat (first | refine blk_drewN ?_ _ | refine blk_drew ?_ | refine blk_alloc ?_ _)); refine blk_put (cs := #[.slice Al l.length cl, .slice none 0 0, .slice none 0 0]) ?_ 2 _ rfl; (with_reducible repeat (first | refine blk_drewN ?_ _ | refine blk_drew ?_ | refine blk_alloc ?_ _)); refine blk_put (cs := #[.slice Al l.length cl, .slice none 0 0, .slice none 0 0]) ?_ 1 _ rfl; (with_reducible repeat (first | refine blk_drewN ?_ _ | refine blk_drew ?_ | refine blk_alloc ?_ _)); refine blk_put (cs := #[.slice none 0 0, .slice none 0 0, .slice none 0 0]) ?_ 0 _ rfl; (with_reducible repeat (first | refine blk_drewN ?_ _ | refine blk_drew ?_ | refine blk_alloc ?_ _)); exact BK.out) hb; have n0_ := zA nk_.1; have n1_ := zA (show Below wr.heap.size wr w9 from below_step (zqG HW.out GE.out) hb); clear hcz0 hcz1 hcz2 hfz0 hfz1 hfz2 HW; have HW := n1_; clear n1_ hb; obtain ⟨Ao, co, eo⟩ := Kd.R_slice ho0; subst eo; have HP := zA (Kd.F_mono (Kd.R_F (Kd.R_bound ho0)) (fun k hk => (Nat.lt_of_lt_of_le nk_.2 hk.2.1 : g8 < k))); have HPL := zA (Kd.R_reads' ho0).2.1; have HPR := zA (Kd.R_lower (Kd.R_mono (Kd.R_bound ho0) (fun k hk => (Nat.lt_of_lt_of_le nk_.2 hk.2.1 : g8 < k))) (show w.heap.size ≤ _ from (by have h1_ := nk_.2; have h2_ := GE.out; have h3_ := HB.out.size; omega))); have b3 := (HW.out.cell (World.block_lt_of_cell? wr _ b2)).trans b2; have hl_ := World.block_lt_of_cell? wr _ b2; have hne2 : (adu.add (j.toNat * 3)).block ≠ g8 := ne_lt hl_ GE.out; clear hl_; have hne4 := hne2.symm; clear b2; clear nk_; have BK := n0_; clear n0_; clear ho0 ho1; have hcz0 : w9.cell? ⟨g8, 0, none⟩ = some (.slice Al l.length cl) := (blk_cell BK.out 0).trans rfl; have hcz1 : w9.cell? ⟨g8, 1, none⟩ = some (.slice none 0 0) := (blk_cell BK.out 1).trans rfl; have hcz2 : w9.cell? ⟨g8, 2, none⟩ = some (.slice none 0 0) := (blk_cell BK.out 2).trans rfl; have hfz0 := blk_frozen BK.out 0; have hfz1 := blk_frozen BK.out 1; have hfz2 := blk_frozen BK.out 2)
     | ((with_reducible refine gate_dst (N := 42) rfl ?_); refine Kd.R_make (Kd.int .i64) _ 3 rfl (N := 42) rfl 30 _ _ rfl m rfl rfl Try.underlying30 (.int .i64 0) 8 info3 rfl (by decide) (by omega) 0 (ok := fun _ => True) (okp := fun _ => True) rfl (fun _ hk => hk) trivial (of_decide_eq_true m0) (Nat.le_trans (Nat.mul_le_mul_right _ (of_decide_eq_true m1 : m.toNat ≤ 35184372088832)) (by omega)) (Below.refl _ _) (Nat.le_refl _) ?_; intro v42 w42 ho hb hg_ hnew_; clear hg_ hnew_; obtain ⟨gR, cR, eR, hR1, _, _⟩ := Kd.R_form ho mpos.out; obtain ⟨n, hn⟩ : ∃ n, n = (List.replicate m.toNat (0 : Int)).length := ⟨_, rfl⟩; rw [← hn] at eR; subst eR; have HV := zA ho; have HGR := zA hR1; have HN2 := zA hn; have nk_ := blk_both (g := g8) (o := .cells #[.slice Al l.length cl, .slice Ao t1.length co, .slice Ao t1.length co] 115 (0, 0)) (by refine blk_put (cs := #[.slice Al l.length cl, .slice Ao t1.length co, .slice none 0 0]) ?_ 2 _ rfl; refine blk_put (cs := #[.slice Al l.length cl, .slice none 0 0, .slice none 0 0]) ?_ 1 _ rfl; exact BK.out) hb; clear hcz0 hcz1 hcz2 hfz0 hfz1 hfz2 b3; have hcz0 : w42.cell? ⟨g8, 0, none⟩ = some (.slice Al l.length cl) := (blk_cell nk_.1 0).trans rfl; have hcz1 : w42.cell? ⟨g8, 1, none⟩ = some (.slice Ao t1.length co) := (blk_cell nk_.1 1).trans rfl; have hcz2 : w42.cell? ⟨g8, 2, none⟩ = some (.slice Ao t1.length co) := (blk_cell nk_.1 2).trans rfl; have hfz0 := blk_frozen nk_.1 0; have hfz1 := blk_frozen nk_.1 1; have hfz2 := blk_frozen nk_.1 2; have HK8 := zA nk_; have HBB := zA hb; clear ho hb hR1 hn nk_))
    have HW42 : Aside0 (Below wr.heap.size wr w42) := ⟨below_step (zqG HW.out GE.out) HBB.out⟩
    rw [size_set, size_set] at HGR HK8 HV
    have HBB2 := zA (show ∀ k, k < w9.heap.size → k ≠ g8 → w42.heap[k]? = w9.heap[k]? from fun k h1 h2 => ((HBB.out.block k (by rw [size_set, size_set]; exact h1)).trans (Below.heap_setCell _ ⟨g8, 2, none⟩ _ k h2)).trans (Below.heap_setCell _ ⟨g8, 1, none⟩ _ k h2))
    clear HBB
    obtain ⟨W3, hW3⟩ : ∃ W3, W3 = w42.setCell ⟨g8, 2, none⟩ (.slice (some ⟨gR, 0, none⟩) n cR) := ⟨_, rfl⟩
    rw [← hW3]
    obtain ⟨z, hz⟩ : ∃ z, z = w9.heap.size := ⟨_, rfl⟩
    rw [← hz] at HGR HK8 HV HBB2
    have HV3 := zA (show (Kd.int .i64).R 3 W3 z (fun _ => True) (.slice (some ⟨gR, 0, none⟩) n cR) (mixAt b t1 m.toNat 0) from by
     rw [mixAt_zero]
     exact Kd.R_mono (Kd.R_step (Kd.R_bound HV.out) (fun k hk _ => by rw [hW3]; exact set_ne _ g8 2 _ k (Nat.lt_of_lt_of_le HK8.out.2 hk.2.1))) (fun _ _ => trivial))
    have BK3 := zA (show W3.heap[g8]? = some (.cells #[.slice Al l.length cl, .slice Ao t1.length co, .slice (some ⟨gR, 0, none⟩) n cR] 115 (0, 0)) from by
     rw [hW3]; exact blk_put (cs := #[.slice Al l.length cl, .slice Ao t1.length co, .slice Ao t1.length co]) HK8.out.1 2 _ rfl)
    have S3 : ∀ k, k < z → k ≠ g8 → W3.heap[k]? = w9.heap[k]? := fun k h1 h2 => by
     rw [hW3]; exact (Below.heap_setCell _ ⟨g8, 2, none⟩ _ k h2).trans (HBB2.out k h1 h2)
    have FO := zA (show Kd.F (Kd.int .i64) W3 (fun k => g8 < k ∧ k < z) Ao t1.length t1 from
     Kd.F_mono (Kd.F_step (Kd.F_bound HP.out) (fun k hk _ => S3 k (by rw [hz]; exact hk.2) (fun e => by have := hk.1; omega))) (fun k hk => ⟨hk.1, by rw [hz]; exact hk.2⟩))
    have FOR := zA (show (Kd.int .i64).R 3 W3 w.heap.size (fun k => g8 < k ∧ k < z) (.slice Ao t1.length co) t1 from
     Kd.R_mono (Kd.R_step (Kd.R_bound HPR.out) (fun k hk _ => S3 k (by rw [hz]; exact hk.2.2.1) (fun e => by have := hk.1; omega))) (fun k hk => ⟨hk.1, by rw [hz]; exact hk.2.2.1⟩))
    have FB := zA (show Kd.F (Kd.int .i64) W3 (fun k => k < z) B2 b.length b from
     Kd.F_mono (Kd.F_step (Kd.F_below (Kd.C_F (Kd.heap_int .i64) HBC.out) HW.out) (fun k hk _ => S3 k (by rw [hz]; have := HW.out.size; omega) (fun e => by have := GE.out; omega))) (fun k hk => by rw [hz]; have := HW.out.size; omega))
    have HW3 := zA (show Below wr.heap.size wr W3 from by rw [hW3]; exact below_set HW42.out GE.out)
    have HNN := zA (show (n : Int) = m from by rw [HN2.out, List.length_replicate]; have := HQ.out; have := HM.out; omega)
    have HG8 := zA HK8.out.2
    clear HV HK8 HBB2 HW42 S3 HN2 hcz0 hcz1 hcz2 hfz0 hfz1 hfz2 HP HPR BK
    go_loopg [47] n (fun kq v47 w' => ∃ (q : Int), v47 = .int .i64 q ∧ Aside0 (0 ≤ q ∧ (kq : Int) = m - q) ∧ Aside0 ((Kd.int .i64).R 3 w' z (fun _ => True) (.slice (some ⟨gR, 0, none⟩) n cR) (mixAt b t1 m.toNat q.toNat)) ∧ Aside0 (Below z W3 w'))
    case atStart => exact ⟨0, rfl, ⟨Int.le_refl _, by have := HNN.out; omega⟩, HV3, ⟨Below.refl _ _⟩⟩
    case round =>
     clear HV3
     obtain ⟨q, rfl, HQ2, HR2, HB2⟩ := hrel
     by_cases cq : q < (n : Int)
     ·
      have cq2 := decide_eq_true cq
      have hbk := (HB2.out.block g8 HG8.out).trans BK3.out
      have hcz0 : wr.cell? ⟨g8, 0, none⟩ = some (.slice Al l.length cl) := (blk_cell hbk 0).trans rfl
      have hcz1 : wr.cell? ⟨g8, 1, none⟩ = some (.slice Ao t1.length co) := (blk_cell hbk 1).trans rfl
      have hcz2 : wr.cell? ⟨g8, 2, none⟩ = some (.slice (some ⟨gR, 0, none⟩) n cR) := (blk_cell hbk 2).trans rfl
      have hfz0 := blk_frozen hbk 0
      have hfz1 := blk_frozen hbk 1
      have hfz2 := blk_frozen hbk 2
      have q0 := HQ2.out.1
      have qb : q < (b.length : Int) := by have := HLo.out; have := HNN.out; have := HM.out; omega
      obtain ⟨ab, eb, hb0⟩ := Kd.at_int (Kd.F_now (Kd.F_step FB.out (fun k hk _ => HB2.out.block k hk))) q q0 qb
      obtain ⟨hc0, hf0⟩ := Kd.R_celln 0 HR2.out q q0 cq
      have qb2 := eq_true qb
      have q02 := eq_true q0
      have cq3 := eq_true cq
      cases eb
      obtain ⟨q1, hq1⟩ : ∃ q1 : Int, q + 1 = q1 := ⟨_, rfl⟩
      have hwq : IntKind.i64.wrap (q + 1) = q1 := by rw [i64_w]; unfold wrap64; have := HQ.out; have := HM.out; have := HNN.out; omega
      have HQ1 := zA hq1
      clear hq1
      go_wp2
      refine wp_region_still_tail 8 (by kernel_rfl) (by kernel_rfl) ?_
      simp only [List.take_succ_cons, List.take_zero, List.drop_succ_cons, List.drop_zero]
      change wpStill _ _ (World.drew _) (fun a' => wpList _ _ _ _ a' (World.drew _)) _ _
      (repeat still_step)
      refine wpStill_nil ?_
      go_wp2
      go_loopg [60] q1.toNat (fun kq v60 w' => ∃ (k : Int), v60 = .int .i64 k ∧ Aside0 (0 ≤ k ∧ (kq : Int) = q1 - k) ∧ Aside0 ((Kd.int .i64).R 3 w' z (fun _ => True) (.slice (some ⟨gR, 0, none⟩) n cR) ((mixAt b t1 m.toNat q.toNat).set q.toNat (mixN b t1 q k.toNat))) ∧ Aside0 (Below z W3 w'))
      case atStart => exact ⟨0, rfl, ⟨Int.le_refl _, by have := HQ1.out; omega⟩, ⟨Kd.R_drew (Kd.R_putn HR2.out q (rd b q))⟩, ⟨by repeat (first | (with_reducible first | exact HB2.out | apply below_alloc | apply pw_below_drewN | apply below_drew1 | apply below_drew | refine below_setz ?_ _ _ _ HGR.out) | exact HB2.out)⟩⟩
      case round =>
       clear hcz0 hcz1 hcz2 hfz0 hfz1 hfz2 hb0 hc0 hf0 hbk HB2 HR2
       obtain ⟨k, rfl, HK2, HR2, HB2⟩ := hrel
       by_cases ck : k < q1
       ·
        have ck2 := decide_eq_true ck
        have hbk := (HB2.out.block g8 HG8.out).trans BK3.out
        have hcz0 : wr.cell? ⟨g8, 0, none⟩ = some (.slice Al l.length cl) := (blk_cell hbk 0).trans rfl
        have hcz1 : wr.cell? ⟨g8, 1, none⟩ = some (.slice Ao t1.length co) := (blk_cell hbk 1).trans rfl
        have hcz2 : wr.cell? ⟨g8, 2, none⟩ = some (.slice (some ⟨gR, 0, none⟩) n cR) := (blk_cell hbk 2).trans rfl
        have hfz0 := blk_frozen hbk 0
        have hfz1 := blk_frozen hbk 1
        have hfz2 := blk_frozen hbk 2
        have k0 := HK2.out.1
        have kb : k < (t1.length : Int) := by have := HL.out.1; have := HNN.out; have := HM.out; have := HQ1.out; omega
        obtain ⟨e, he⟩ : ∃ e : Int, q - k = e := ⟨_, rfl⟩
        have hwe : IntKind.i64.wrap (q - k) = e := by rw [i64_w]; unfold wrap64; have := HQ.out; have := HM.out; have := HNN.out; have := HQ1.out; omega
        have e0 : 0 ≤ e := by have := HQ1.out; omega
        have eb : e < (b.length : Int) := by omega
        obtain ⟨ab2, eb2, hb0⟩ := Kd.at_int (Kd.F_now (Kd.F_step FB.out (fun k hk _ => HB2.out.block k hk))) e e0 eb
        obtain ⟨ao, eo, ho0⟩ := Kd.at_int (Kd.F_now (Kd.F_step FO.out (fun k hk _ => HB2.out.block k hk.2))) k k0 kb
        obtain ⟨hc0, hf0⟩ := Kd.R_celln 0 HR2.out q q0 cq
        obtain ⟨X, hX⟩ : ∃ X, mixN b t1 q k.toNat = X := ⟨_, rfl⟩
        have hc1 : wr.cell? ⟨gR, q.toNat, none⟩ = some (.int .i64 X) := by
         rw [hc0]
         have : rdOf (0 : Int) ((mixAt b t1 m.toNat q.toNat).set q.toNat (mixN b t1 q k.toNat)) q = X := by rw [hX]; exact rd_set_same _ _ _ (by rw [mixAt_len]; have := HNN.out; omega)
         rw [this]
        obtain ⟨sm, hsm⟩ : ∃ sm, wrap64 (rd b e + rd t1 k) = sm := ⟨_, rfl⟩
        have hws : IntKind.i64.wrap (rd b e + rd t1 k) = sm := (i64_w _).trans hsm
        have hstep : mixN b t1 q (k + 1).toNat = if sm < X then sm else X := by
         rw [show (k + 1).toNat = k.toNat + 1 by omega]
         show (if wrap64 (rd b (q - (k.toNat : Nat)) + rd t1 (k.toNat : Nat)) < mixN b t1 q k.toNat then wrap64 (rd b (q - (k.toNat : Nat)) + rd t1 (k.toNat : Nat)) else mixN b t1 q k.toNat) = _
         rw [show ((k.toNat : Nat) : Int) = k by omega, he, hsm, hX]
        obtain ⟨Y, hY⟩ : ∃ Y, (if sm < X then sm else X) = Y := ⟨_, rfl⟩
        rw [hY] at hstep
        have HS := zA hstep
        have HHX := zA hX
        clear hc0 hstep hX he hsm
        have hwk : wrap64 (k + 1) = k + 1 := by unfold wrap64; have := HQ.out; have := HM.out; have := HL.out.1; omega
        have kb2 := eq_true kb
        have k02 := eq_true k0
        have e02 := eq_true e0
        have ebb := eq_true eb
        injection eb2 with eb3
        subst eb3; cases eo
        go_wp2
        refine wp_region_still_tail 22 (by kernel_rfl) (by kernel_rfl) ?_
        simp only [List.take_succ_cons, List.take_zero, List.drop_succ_cons, List.drop_zero]
        change wpStill _ _ (World.drew _) (fun a' => wpList _ _ _ _ a' (World.drew _)) _ _
        (repeat still_step)
        refine wpStill_nil ?_
        go_wp2
        go_roundg (q1 - (k + 1)).toNat
        case measure => have := HK2.out; omega
        case rel => exact ⟨k + 1, by first | rfl | (simp; done) | (simp; exact hwk), ⟨by omega, by have := HK2.out; omega⟩, ⟨Kd.R_drew (by rw [HS.out]; have h_ := Kd.R_putn HR2.out q Y; rw [List.set_set] at h_; exact h_)⟩, ⟨by repeat (first | (with_reducible first | exact HB2.out | apply below_alloc | apply pw_below_drewN | apply below_drew1 | apply below_drew | refine below_setz ?_ _ _ _ HGR.out) | exact HB2.out)⟩⟩
       ·
        have hk : k = q1 := by have := HK2.out; omega
        have HR4 := zA (show (Kd.int .i64).R 3 wr z (fun _ => True) (.slice (some ⟨gR, 0, none⟩) n cR) (mixAt b t1 m.toNat (q + 1).toNat) from by
         rw [mixAt_succ q0 (by have := HNN.out; omega), show (q.toNat + 1) = k.toNat by have := HQ1.out; omega]
         exact HR2.out)
        have hq := HQ2.out
        go_wp2
        have hn2 := HNN.out
        have h5 := HQ1.out
        have HR5 := HR4.out
        rw [h5] at HR5
        go_roundg (m - q1).toNat
        case measure => omega
        case rel => exact ⟨q1, by first | rfl | simp, ⟨by omega, by omega⟩, ⟨HR5⟩, HB2⟩
     ·
      have hq : q.toNat = m.toNat := by have := HNN.out; have := HQ2.out; omega
      rw [hq] at HR2
      obtain rfl : n = (mixAt b t1 m.toNat m.toNat).length := by rw [mixAt_len]; have := HNN.out; omega
      have HWn := zA (below_chain HW3.out HB2.out (by have := GE.out; have := HG8.out; omega))
      have hbk := (HB2.out.block g8 HG8.out).trans BK3.out
      obtain ⟨row, hrow⟩ : ∃ row, row = mixAt b t1 m.toNat m.toNat := ⟨_, rfl⟩
      rw [← hrow] at hbk HR2 HNN cq BK3 ⊢
      have hcz0 : wr.cell? ⟨g8, 0, none⟩ = some (.slice Al l.length cl) := (blk_cell hbk 0).trans rfl
      have hcz1 : wr.cell? ⟨g8, 1, none⟩ = some (.slice Ao t1.length co) := (blk_cell hbk 1).trans rfl
      have hcz2 : wr.cell? ⟨g8, 2, none⟩ = some (.slice (some ⟨gR, 0, none⟩) row.length cR) := (blk_cell hbk 2).trans rfl
      have hfz0 := blk_frozen hbk 0
      have hfz1 := blk_frozen hbk 1
      have hfz2 := blk_frozen hbk 2
      have cq2 := decide_eq_false cq
      have hwz : w.heap.size ≤ z := by have := HB.out.size; have := GE.out; have := HG8.out; omega
      have FR := zA (Kd.R_lower (Kd.R_mono (Kd.R_bound HR2.out) (fun k hk => (NG.out g8 GE.out k (Nat.lt_of_lt_of_le HG8.out hk.2.1) : some k ≠ (Value.slice (some adu) acc.length cu).ownBlock))) hwz)
      have FO2 := zA (Kd.R_mono (Kd.R_step FOR.out (fun k hk _ => HB2.out.block k hk.2)) (fun k hk => (NG.out g8 GE.out k hk.1 : some k ≠ (Value.slice (some adu) acc.length cu).ownBlock)))
      have HRL := zA (Kd.R_reads' HR2.out).2.1
      have HROW := zA hrow
      clear hrow
      go_wp2_with (
       ((with_reducible refine gate_builtin (b := .append) (xs := #[.tmp 87, .tmp 89]) rfl ?_); at_builtin; refine Kd.N_append (kReg w.heap.size) (w0 := w) w.heap.size rfl (.tmp 87) (.tmp 89) 109 115 (.agg #[.slice none 0 0, .slice none 0 0, .slice none 0 0]) 72 rfl Try.underlying109 info115 rfl (Nat.succ_pos 2) (by omega) (.slice (some adu) acc.length cu) acc (⟨l, t1, row⟩ : S115) [.slice Al l.length cl, .slice Ao t1.length co, .slice (some ⟨gR, 0, none⟩) row.length cR] (fun _ => True) (fun k => some k ≠ (Value.slice (some adu) acc.length cu).ownBlock) rfl (by first | (go_simp; done) | (go_simp; rfl)) ?aP (fun _ hk => ⟨trivial, hk⟩) (fun _ _ => trivial) ?aO ?aB ?aS ?aL ?_; (case aP => exact kReg_mkF (⟨l, t1, row⟩ : S115) HLC.out (far_old HF.out HWn.out (Kd.N_base HN.out)) FO2.out (fun k hk => hk) FR.out (fun k hk => hk)); (case aO => exact Kd.N_below HN.out HWn.out); (case aB => exact below_step HB.out HWn.out); (case aS => exact below_size (below_step HB.out HWn.out)); (case aL => have := HQ.out; have := HI.out; omega); intro v9 w10 ho hb hg hat; have n0_ := zA ho; have n1_ := zA hb; clear HN HB ho hb hg hat; have HN := n0_; have HB := n1_; clear n0_ n1_))
      have hX := HX.out
      have e0 : acc ≠ [] := fun e => by have := HI.out.2.2.1; rw [e] at this; simp at this; omega
      rw [HL.out.2, if_neg e0, show (acc.length : Int) - 1 = j by have := HI.out.2.2.1; have := HJ.out; omega, HB9.out, mixF_at, HM.out, ← HROW.out] at hX
      have hlr : (row.length : Int) = a1 + 1 := by rw [HROW.out, mixAt_len]; have := HM.out; have := HQ.out; omega
      have hwi1 : wrap64 (i + 1) = i + 1 := by unfold wrap64; have := HQ.out; omega
      go_roundg (l0_1.length - (i + 1)).toNat
      case measure => have := HI.out.2.1; omega
      case rel => exact ⟨i + 1, _, by first | rfl | (simp; done) | (simp; exact hwi1), ⟨by omega, by have := HI.out.2.1; omega, by simp; have := HI.out.2.2.1; omega, long_snoc HI.out.2.2.2.1 hlr, hX⟩, HN, HB⟩
   ·
    have ci2 : decide (0 < i) = false := decide_eq_false ci
    have NG := zA (show ∀ g8 : Nat, wr.heap.size ≤ g8 → ∀ k, g8 < k → some k ≠ (Value.slice Au acc.length cu).ownBlock from fun g8 hg k hk he => by have := Kd.N_lt HN.out k he.symm; omega)
    go_wp2_with (first
     | ((with_reducible refine gate_dst (N := 8) rfl ?_); refine box_event ?hg (N := 8) ?hd (cs := #[.slice none 0 0, .slice none 0 0, .slice none 0 0]) (t := 115) ?hr ?_; (case hd => rfl); (case hg => rfl); (case hr => first | (go_simp; done) | (go_simp; rfl)); intro g8 hg w8 hbox hb; have n0_ := zA (below_step HW.out hb); have n1_ := zA (hbox); have n2_ : Aside0 (wr.heap.size ≤ g8) := ⟨by rw [hg]; simp⟩; clear HW; have HW := n0_; have BK := n1_; have GE := n2_; clear n0_ n1_ n2_; clear hb hbox hg; have hcz0 : w8.cell? ⟨g8, 0, none⟩ = some (.slice none 0 0) := (blk_cell BK.out 0).trans rfl; have hcz1 : w8.cell? ⟨g8, 1, none⟩ = some (.slice none 0 0) := (blk_cell BK.out 1).trans rfl; have hcz2 : w8.cell? ⟨g8, 2, none⟩ = some (.slice none 0 0) := (blk_cell BK.out 2).trans rfl; have hfz0 := blk_frozen BK.out 0; have hfz1 := blk_frozen BK.out 1; have hfz2 := blk_frozen BK.out 2)
     | (go_at_call 70; refine (tabled_least.calls _ _ l a1 t1 t2 _ (Kd.C_below HC.out (zqG HW.out GE.out)) HLC.out HT.out).mono ?_; rintro e w9 ⟨v0, v1, rfl, ho0, ho1, hb⟩; have nk_ := blk_both (g := g8) (o := .cells #[.slice Al l.length cl, .slice none 0 0, .slice none 0 0] 115 (0, 0)) (by (with_reducible repeat (first | refine blk_drewN ?_ _ | refine blk_drew ?_ | refine blk_alloc ?_ _)); refine blk_put (cs := #[.slice Al l.length cl, .slice none 0 0, .slice none 0 0]) ?_ 2 _ rfl; (with_reducible repeat (first | refine blk_drewN ?_ _ | refine blk_drew ?_ | refine blk_alloc ?_ _)); refine blk_put (cs := #[.slice Al l.length cl, .slice none 0 0, .slice none 0 0]) ?_ 1 _ rfl; (with_reducible repeat (first | refine blk_drewN ?_ _ | refine blk_drew ?_ | refine blk_alloc ?_ _)); refine blk_put (cs := #[.slice none 0 0, .slice none 0 0, .slice none 0 0]) ?_ 0 _ rfl; (with_reducible repeat (first | refine blk_drewN ?_ _ | refine blk_drew ?_ | refine blk_alloc ?_ _)); exact BK.out) hb; have n0_ := zA nk_.1; have n1_ := zA (show Below wr.heap.size wr w9 from below_step (zqG HW.out GE.out) hb); clear hcz0 hcz1 hcz2 hfz0 hfz1 hfz2 HW; have HW := n1_; clear n1_ hb; obtain ⟨Ao, co, eo⟩ := Kd.R_slice ho0; subst eo; have HP := zA (Kd.F_mono (Kd.R_F (Kd.R_bound ho0)) (fun k hk => (Nat.lt_of_lt_of_le nk_.2 hk.2.1 : g8 < k))); have HPL := zA (Kd.R_reads' ho0).2.1; have HPR := zA (Kd.R_lower (Kd.R_mono (Kd.R_bound ho0) (fun k hk => (Nat.lt_of_lt_of_le nk_.2 hk.2.1 : g8 < k))) (show w.heap.size ≤ _ from (by have h1_ := nk_.2; have h2_ := GE.out; have h3_ := HB.out.size; omega))); clear nk_; have BK := n0_; clear n0_; clear ho0 ho1; have hcz0 : w9.cell? ⟨g8, 0, none⟩ = some (.slice Al l.length cl) := (blk_cell BK.out 0).trans rfl; have hcz1 : w9.cell? ⟨g8, 1, none⟩ = some (.slice none 0 0) := (blk_cell BK.out 1).trans rfl; have hcz2 : w9.cell? ⟨g8, 2, none⟩ = some (.slice none 0 0) := (blk_cell BK.out 2).trans rfl; have hfz0 := blk_frozen BK.out 0; have hfz1 := blk_frozen BK.out 1; have hfz2 := blk_frozen BK.out 2)
     | ((with_reducible refine gate_builtin (b := .append) (xs := #[.tmp 87, .tmp 89]) rfl ?_); at_builtin; refine Kd.N_append (kReg w.heap.size) (w0 := w) w.heap.size rfl (.tmp 87) (.tmp 89) 109 115 (.agg #[.slice none 0 0, .slice none 0 0, .slice none 0 0]) 72 rfl Try.underlying109 info115 rfl (Nat.succ_pos 2) (by omega) (.slice Au acc.length cu) acc (⟨l, t1, t1⟩ : S115) [.slice Al l.length cl, .slice Ao t1.length co, .slice Ao t1.length co] (fun _ => True) (fun k => some k ≠ (Value.slice Au acc.length cu).ownBlock) rfl (by first | (go_simp; done) | (go_simp; rfl)) ?aP (fun _ hk => ⟨trivial, hk⟩) (fun _ _ => trivial) ?aO ?aB ?aS ?aL ?_; (case aP => exact kReg_mkF (⟨l, t1, t1⟩ : S115) HLC.out (far_old HF.out (zqG HW.out GE.out) (Kd.N_base HN.out)) (Kd.R_step HPR.out (fun k hk _ => (set_ne _ g8 2 _ k hk).trans (set_ne _ g8 1 _ k hk))) (NG.out g8 GE.out) (Kd.R_step HPR.out (fun k hk _ => (set_ne _ g8 2 _ k hk).trans (set_ne _ g8 1 _ k hk))) (NG.out g8 GE.out)); (case aO => exact Kd.N_below HN.out (zqG HW.out GE.out)); (case aB => exact below_step HB.out (zqG HW.out GE.out)); (case aS => exact below_size (below_step HB.out (zqG HW.out GE.out))); (case aL => have := HQ.out; have := HI.out; omega); intro v9 w10 ho hb hg hat; have n0_ := zA ho; have n1_ := zA hb; clear HN HB ho hb hg hat; have HN := n0_; have HB := n1_; clear n0_ n1_))
    have e0 : acc = [] := List.eq_nil_of_length_eq_zero (by have := HI.out.2.2.1; omega)
    have hX := HX.out
    rw [HL.out.2, if_pos e0] at hX
    go_roundg (l0_1.length - (i + 1)).toNat
    case measure => have := HI.out.2.1; omega
    case rel => exact ⟨i + 1, _, by first | rfl | simp, ⟨by omega, by have := HI.out.2.1; omega, by simp; have := HI.out.2.2.1; omega, long_snoc HI.out.2.2.2.1 HL.out.1, hX⟩, HN, HB⟩
  ·
   have hr : acc = r := by
    have h2 := HI.out.2.2.2.2
    rw [List.drop_eq_nil_of_le (by omega)] at h2
    exact Option.some.inj h2
   obtain ⟨Au, cu, eu⟩ := Kd.N_slice HN.out
   subst eu; subst hr
   go_wp2
   go_ret
   exact ⟨Au, cu, rfl, (Kd.N_reads' HN.out).2.1, (Kd.N_reads' HN.out).2.2, HB.out, fun ad e => by subst e; exact Kd.N_base HN.out ad.block rfl⟩
theorem regs.calls (A0_0 : Option Addr) (c0_0 : Nat) (l0_0 : List (List (S71))) (A0_1 : Option Addr) (c0_1 : Nat) (l0_1 : List (List (S71))) (a1 : Int) (r : List S115) (w : World) (hr0_1 : Kd.C (Kd.slice 71 k71) w A0_1 l0_1.length l0_1) (hc0_1 : l0_1.length ≤ c0_1) (h : regs.f l0_1 a1 = some r) :
    Calls Try.prog 71 #[.agg #[.slice A0_0 l0_0.length c0_0, .slice A0_1 l0_1.length c0_1], .int .i64 a1] w fun e w' => ∃ A c, e = .returned (.slice A r.length c) ∧ r.length ≤ c ∧ Kd.C (kReg w.heap.size) w' A r.length r ∧ Below w.heap.size w w' :=
  (regs.callsN A0_0 c0_0 l0_0 A0_1 c0_1 l0_1 a1 r w hr0_1 hc0_1 h).mono (fun _ _ ⟨A, c, h1, h2, h3, h4, _⟩ => ⟨A, c, h1, h2, h3, h4⟩)
theorem fold_len {t : Int} : ∀ (ls : List (List S71)) (a r : List S115), ls.foldlM (regStep t) a = some r → r.length = a.length + ls.length
  | [], a, r, h => by rw [← Option.some.inj h]; rfl
  | l :: ls, a, r, h => by
    rw [List.foldlM_cons] at h
    obtain ⟨a', h1, h2⟩ := Option.bind_eq_some_iff.mp h
    rw [fold_len ls a' r h2]
    obtain ⟨x, _, h1⟩ := Option.bind_eq_some_iff.mp h1
    split at h1
    · cases h1
      simp
      omega
    · cases h1
theorem regs_len {ls : List (List S71)} {t : Int} {r : List S115} (h : regs.f ls t = some r) : r.length ≤ 1000 := by
  unfold regs.f at h
  split at h
  · have := fold_len _ _ _ h
    simp at this
    omega
  · cases h
end Go.Proofs.Ythoeindopljmkaa.P
end
section
namespace Go.Proofs.Ythoeindopljmkaa.P
open Go.RowKit Go.Proofs.YthoeindopljmkaaW.PrintWords Go.Proofs.YthoeindopljmkaaW.PrintLast Go.Proofs.YthoeindopljmkaaW.PrintMore
set_option linter.unusedVariables false
set_option linter.unusedSimpArgs false
theorem kReg_row {B n : Nat} {w : World} {A : Option Addr} {xs : List S115} (h : Kd.C (kReg B) w A n xs) (i : Int) (h0 : 0 ≤ i) (h1 : i < n) :
    ∃ ad v2, A = some ad ∧ w.cell? ⟨(ad.add (i.toNat * 3)).block, (ad.add (i.toNat * 3)).off + 2, none⟩ = some v2 ∧ (Kd.int .i64).R 3 w B (fun _ => True) v2 (rd_T115 xs i).f2 := by
  obtain ⟨ad, c, e, _, hK, hc0⟩ := Kd.C_get h z115 i h0 h1
  have hc : ∀ j u, c[j]? = some u → w.cell? (ad.add (i.toNat * 3 + j)) = some u := hc0
  obtain ⟨_, _, rfl, ⟨_, _, rfl, _, _⟩, _, _, rfl, ⟨v1, rfl, g1⟩, ⟨v2, rfl, g2⟩⟩ := hK
  exact ⟨ad, v2, e, by rw [← add_field _ _ 2 (by omega)]; exact hc 2 _ rfl, g2⟩
def pump_Plant_row.f (l0_0 l0_1 : List (List S71)) (a1 : Int) : Option (List Int) := (regs.f l0_1 a1).bind fun r => if r.length = 0 then none else some (rd_T115 r (r.length - 1)).f2
set_option maxHeartbeats 8000000 in
set_option maxRecDepth 100000 in
theorem pump_Plant_row.calls (A0_0 : Option Addr) (c0_0 : Nat) (l0_0 : List (List (S71))) (A0_1 : Option Addr) (c0_1 : Nat) (l0_1 : List (List (S71))) (a1 : Int) (r : List Int) (w : World) (hr0_0 : Kd.C (Kd.slice 71 k71) w A0_0 l0_0.length l0_0) (hc0_0 : l0_0.length ≤ c0_0) (hr0_1 : Kd.C (Kd.slice 71 k71) w A0_1 l0_1.length l0_1) (hc0_1 : l0_1.length ≤ c0_1) (h : pump_Plant_row.f l0_0 l0_1 a1 = some r) :
    Calls Try.prog 64 #[.agg #[.slice A0_0 l0_0.length c0_0, .slice A0_1 l0_1.length c0_1], .int .i64 a1] w fun e w' => ∃ v0_ : Value, e = .returned (v0_) ∧ Kd.R (Kd.int .i64) 3 w' w.heap.size (fun _ => True) v0_ r ∧ Below w.heap.size w w' := by
  have hu40 := Try.underlying40
  obtain ⟨rs, hrs, h⟩ := Option.bind_eq_some_iff.mp h
  have h9 : rs.length ≠ 0 ∧ (rd_T115 rs (rs.length - 1)).f2 = r := by
    split at h
    · cases h
    · cases h; exact ⟨by assumption, rfl⟩
  clear h
  have hsz : rs.length ≤ 1000 := regs_len hrs
  have HS := zA hrs
  have H9 := zA h9
  have HZ := zA hsz
  have HR := zA hr0_1
  have HC := zA hc0_1
  clear hrs h9 hr0_0 hr0_1 hc0_1 hsz
  have HB := zA (Below.refl w.heap.size w)
  obtain ⟨j, hj⟩ : ∃ j : Int, (rs.length : Int) - 1 = j := ⟨_, rfl⟩
  have hwl : IntKind.i64.wrap ((rs.length : Int) - 1) = j := by rw [i64_w]; unfold wrap64; have := HZ.out; omega
  have HJ := zA hj
  rw [hj] at H9
  have j0 := eq_true (show 0 ≤ j by have := H9.out.1; omega)
  have j1 := eq_true (show j < (rs.length : Int) by omega)
  clear hj
  go_enter Try.func64, Try.ntmps64
  go_wp2_with (first | ((with_reducible refine gate_dst (N := 2) rfl ?_); refine box_event ?hg (N := 2) ?hd (cs := #[.slice A0_0 l0_0.length c0_0, .slice A0_1 l0_1.length c0_1]) (t := 40) ?hr ?_; (case hd => rfl); (case hg => rfl); (case hr => first | (go_simp; done) | (go_simp; rfl)); intro g2 hg w6 hbox hb; have n0_ := zA (below_step HB.out hb); have n1_ := zA (hbox); clear HB; have HB := n0_; have BK := n1_; clear n0_ n1_; clear hb hbox hg; have hcz0 : w6.cell? ⟨g2, 0, none⟩ = some (.slice A0_0 l0_0.length c0_0) := (blk_cell BK.out 0).trans rfl; have hcz1 : w6.cell? ⟨g2, 1, none⟩ = some (.slice A0_1 l0_1.length c0_1) := (blk_cell BK.out 1).trans rfl; have hfz0 := blk_frozen BK.out 0; have hfz1 := blk_frozen BK.out 1) | (go_at_call 71; refine (regs.calls A0_0 c0_0 l0_0 A0_1 c0_1 l0_1 a1 rs _ (Kd.C_below HR.out HB.out) HC.out HS.out).mono ?_; rintro e w9 ⟨A, c, rfl, hl, hC, hb⟩; obtain ⟨ad, v2, eA, hv, hR⟩ := kReg_row hC j (of_eq_true j0) (of_eq_true j1); subst eA; have n0_ := zA (Kd.R_lower hR HB.out.size); have n1_ := zA (below_step HB.out hb); clear HB hC hR hb; have HV := n0_; have HB := n1_; clear n0_ n1_))
  go_ret
  exact ⟨_, rfl, by rw [← H9.out.2]; exact HV.out, HB.out⟩
end Go.Proofs.Ythoeindopljmkaa.P
end
section
namespace Go.Proofs.Ythoeindopljmkaa.P
open Go.RowKit Go.Proofs.YthoeindopljmkaaW.PrintWords Go.Proofs.YthoeindopljmkaaW.PrintLast Go.Proofs.YthoeindopljmkaaW.PrintMore
attribute [local go_sem] max2_int min2_int max_two min_two max_three min_three max_four min_four
set_option linter.unusedVariables false
set_option linter.unusedSimpArgs false
def pump_Most.f (l0 : List (S71)) (a1 : Int) : Option (Int × Int) := (asked_most.f l0 a1 l0).bind fun bt105 => (some (bt105.1, bt105.2.2))
set_option maxHeartbeats 8000000 in
set_option maxRecDepth 100000 in
theorem pump_Most.calls (A0 : Option Addr) (c0 : Nat) (l0 : List (S71)) (a1 : Int) (r1 : Int) (r2 : Int) (w : World) (hr0 : Kd.C k71 w A0 l0.length l0) (hc0 : l0.length ≤ c0) (h : pump_Most.f l0 a1 = some (r1, r2)) :
    Calls Try.prog 17 #[.slice A0 l0.length c0, .int .i64 a1] w fun e w' => e = .returned (.tuple #[.int .i64 r1, .int .i64 r2]) ∧ Below w.heap.size w w' := by
  have HR0 := zA hr0
  have HC0 := zA hc0
  clear hr0 hc0
  have HB := zA (Below.refl w.heap.size w)
  have H : ((asked_most.f l0 a1 l0).bind fun bt105 => (some (bt105.1, bt105.2.2))) = some (r1, r2) := h
  clear h
  replace H := Option.bind_eq_some_iff.mp H
  obtain ⟨⟨t105, t106, t107⟩, A30, H⟩ := H
  replace H : (some (t105, t107)) = some (r1, r2) := H
  have A3 := zA A30
  clear A30
  simp only [Option.some.injEq, Prod.mk.injEq] at H
  obtain ⟨rfl, rfl⟩ := H
  go_enter Try.func17, Try.ntmps17
  go_wp2_with (first | ((with_reducible refine gate_callee (f := 52) rfl ?_); refine goesL_ (some 14) rfl rfl Try.func52 (by kernel_rfl) rfl #[.slice A0 l0.length c0, .int .i64 a1, .func (.func 53) #[.slice A0 l0.length c0] #[]] rfl zqE ?_; (with_reducible refine (asked_most.calls _ _ l0 a1 _ _ l0 t105 t106 t107 _ ?side1 ?side2 ?side3 ?side4 A3.out).mono ?_); (case side1 => exact zqK HR0.out); (case side2 => exact HC0.out); (case side3 => exact zqK HR0.out); (case side4 => exact HC0.out); rintro e w4 ⟨v108, rfl, ho0, hb⟩; refine ⟨_, rfl, ?_⟩; have n0_ := zA (Kd.R_lower ho0 (below_size (zqA HB.out))); have n1_ := zA (below_step (zqA HB.out) hb); clear HB; have HO109 := n0_; have HB := n1_; clear n0_ n1_; (try clear hb); (try clear hb2); (try clear hk); (try clear hi); (try clear ho0)))
  go_ret2
  exact ⟨zqR, zqA HB.out⟩
def pump_Least.f (l0 : List (S71)) (a1 : Int) : Option (Int × Int) := (asked_least.f l0 a1 l0).bind fun bt130 => (some (bt130.1, bt130.2.2))
set_option maxHeartbeats 8000000 in
set_option maxRecDepth 100000 in
theorem pump_Least.calls (A0 : Option Addr) (c0 : Nat) (l0 : List (S71)) (a1 : Int) (r1 : Int) (r2 : Int) (w : World) (hr0 : Kd.C k71 w A0 l0.length l0) (hc0 : l0.length ≤ c0) (h : pump_Least.f l0 a1 = some (r1, r2)) :
    Calls Try.prog 19 #[.slice A0 l0.length c0, .int .i64 a1] w fun e w' => e = .returned (.tuple #[.int .i64 r1, .int .i64 r2]) ∧ Below w.heap.size w w' := by
  have HR0 := zA hr0
  have HC0 := zA hc0
  clear hr0 hc0
  have HB := zA (Below.refl w.heap.size w)
  have H : ((asked_least.f l0 a1 l0).bind fun bt130 => (some (bt130.1, bt130.2.2))) = some (r1, r2) := h
  clear h
  replace H := Option.bind_eq_some_iff.mp H
  obtain ⟨⟨t130, t131, t132⟩, A30, H⟩ := H
  replace H : (some (t130, t132)) = some (r1, r2) := H
  have A3 := zA A30
  clear A30
  simp only [Option.some.injEq, Prod.mk.injEq] at H
  obtain ⟨rfl, rfl⟩ := H
  go_enter Try.func19, Try.ntmps19
  go_wp2_with (first | ((with_reducible refine gate_callee (f := 52) rfl ?_); refine goesL_ (some 14) rfl rfl Try.func52 (by kernel_rfl) rfl #[.slice A0 l0.length c0, .int .i64 a1, .func (.func 56) #[.slice A0 l0.length c0] #[]] rfl zqE ?_; (with_reducible refine (asked_least.calls _ _ l0 a1 _ _ l0 t130 t131 t132 _ ?side1 ?side2 ?side3 ?side4 A3.out).mono ?_); (case side1 => exact zqK HR0.out); (case side2 => exact HC0.out); (case side3 => exact zqK HR0.out); (case side4 => exact HC0.out); rintro e w4 ⟨v133, rfl, ho0, hb⟩; refine ⟨_, rfl, ?_⟩; have n0_ := zA (Kd.R_lower ho0 (below_size (zqA HB.out))); have n1_ := zA (below_step (zqA HB.out) hb); clear HB; have HO134 := n0_; have HB := n1_; clear n0_ n1_; (try clear hb); (try clear hb2); (try clear hk); (try clear hi); (try clear ho0)))
  go_ret2
  exact ⟨zqR, zqA HB.out⟩
def pump_Cover.f (l0 : List (S71)) (a1 : Int) : Option (List Int × Int) := (asked_most.f l0 a1 l0).bind fun bt151 => (some (bt151.2.1, bt151.2.2))
set_option maxHeartbeats 8000000 in
set_option maxRecDepth 100000 in
theorem pump_Cover.calls (A0 : Option Addr) (c0 : Nat) (l0 : List (S71)) (a1 : Int) (r1 : List Int) (r2 : Int) (w : World) (hr0 : Kd.C k71 w A0 l0.length l0) (hc0 : l0.length ≤ c0) (h : pump_Cover.f l0 a1 = some (r1, r2)) :
    Calls Try.prog 21 #[.slice A0 l0.length c0, .int .i64 a1] w fun e w' => ∃ v0_ : Value, e = .returned (.tuple #[v0_, .int .i64 r2]) ∧ Kd.R (Kd.int .i64) 3 w' w.heap.size (fun _ => True) v0_ r1 ∧ Below w.heap.size w w' := by
  have HR0 := zA hr0
  have HC0 := zA hc0
  clear hr0 hc0
  have HB := zA (Below.refl w.heap.size w)
  have H : ((asked_most.f l0 a1 l0).bind fun bt151 => (some (bt151.2.1, bt151.2.2))) = some (r1, r2) := h
  clear h
  replace H := Option.bind_eq_some_iff.mp H
  obtain ⟨⟨t151, t152, t153⟩, A30, H⟩ := H
  replace H : (some (t152, t153)) = some (r1, r2) := H
  have A3 := zA A30
  clear A30
  simp only [Option.some.injEq, Prod.mk.injEq] at H
  obtain ⟨rfl, rfl⟩ := H
  go_enter Try.func21, Try.ntmps21
  go_wp2_with (first | ((with_reducible refine gate_callee (f := 52) rfl ?_); refine goesL_ (some 14) rfl rfl Try.func52 (by kernel_rfl) rfl #[.slice A0 l0.length c0, .int .i64 a1, .func (.func 53) #[.slice A0 l0.length c0] #[]] rfl zqE ?_; (with_reducible refine (asked_most.calls _ _ l0 a1 _ _ l0 t151 t152 t153 _ ?side1 ?side2 ?side3 ?side4 A3.out).mono ?_); (case side1 => exact zqK HR0.out); (case side2 => exact HC0.out); (case side3 => exact zqK HR0.out); (case side4 => exact HC0.out); rintro e w4 ⟨v154, rfl, ho0, hb⟩; refine ⟨_, rfl, ?_⟩; have n0_ := zA (Kd.R_lower ho0 (below_size (zqA HB.out))); have n1_ := zA (below_step (zqA HB.out) hb); clear HB; have HO155 := n0_; have HB := n1_; clear n0_ n1_; (try clear hb); (try clear hb2); (try clear hk); (try clear hi); (try clear ho0)))
  go_ret2
  exact ⟨_, zqR, zqC HO155.out, zqA HB.out⟩
def pump_Pack.f (l0 : List (S71)) (a1 : Int) : Option (List Int × Int) := (asked_least.f l0 a1 l0).bind fun bt156 => (some (bt156.2.1, bt156.2.2))
set_option maxHeartbeats 8000000 in
set_option maxRecDepth 100000 in
theorem pump_Pack.calls (A0 : Option Addr) (c0 : Nat) (l0 : List (S71)) (a1 : Int) (r1 : List Int) (r2 : Int) (w : World) (hr0 : Kd.C k71 w A0 l0.length l0) (hc0 : l0.length ≤ c0) (h : pump_Pack.f l0 a1 = some (r1, r2)) :
    Calls Try.prog 22 #[.slice A0 l0.length c0, .int .i64 a1] w fun e w' => ∃ v0_ : Value, e = .returned (.tuple #[v0_, .int .i64 r2]) ∧ Kd.R (Kd.int .i64) 3 w' w.heap.size (fun _ => True) v0_ r1 ∧ Below w.heap.size w w' := by
  have HR0 := zA hr0
  have HC0 := zA hc0
  clear hr0 hc0
  have HB := zA (Below.refl w.heap.size w)
  have H : ((asked_least.f l0 a1 l0).bind fun bt156 => (some (bt156.2.1, bt156.2.2))) = some (r1, r2) := h
  clear h
  replace H := Option.bind_eq_some_iff.mp H
  obtain ⟨⟨t156, t157, t158⟩, A30, H⟩ := H
  replace H : (some (t157, t158)) = some (r1, r2) := H
  have A3 := zA A30
  clear A30
  simp only [Option.some.injEq, Prod.mk.injEq] at H
  obtain ⟨rfl, rfl⟩ := H
  go_enter Try.func22, Try.ntmps22
  go_wp2_with (first | ((with_reducible refine gate_callee (f := 52) rfl ?_); refine goesL_ (some 14) rfl rfl Try.func52 (by kernel_rfl) rfl #[.slice A0 l0.length c0, .int .i64 a1, .func (.func 56) #[.slice A0 l0.length c0] #[]] rfl zqE ?_; (with_reducible refine (asked_least.calls _ _ l0 a1 _ _ l0 t156 t157 t158 _ ?side1 ?side2 ?side3 ?side4 A3.out).mono ?_); (case side1 => exact zqK HR0.out); (case side2 => exact HC0.out); (case side3 => exact zqK HR0.out); (case side4 => exact HC0.out); rintro e w4 ⟨v159, rfl, ho0, hb⟩; refine ⟨_, rfl, ?_⟩; have n0_ := zA (Kd.R_lower ho0 (below_size (zqA HB.out))); have n1_ := zA (below_step (zqA HB.out) hb); clear HB; have HO160 := n0_; have HB := n1_; clear n0_ n1_; (try clear hb); (try clear hb2); (try clear hk); (try clear hi); (try clear ho0)))
  go_ret2
  exact ⟨_, zqR, zqC HO160.out, zqA HB.out⟩
def pump_planned.f (l0_0 : List (List (S71))) (l0_1 : List (List (S71))) (a1 : Int) : Option (Int) := (pump_Check.f l0_0 l0_1).bind fun t208 => (if t208 = 0 then ((pump_between.f 0 a1 200).bind fun t209 => (if t209 = true then (some t208) else (some 3))) else (some t208))
set_option maxHeartbeats 8000000 in
set_option maxRecDepth 100000 in
theorem pump_planned.calls (A0_0 : Option Addr) (c0_0 : Nat) (l0_0 : List (List (S71))) (A0_1 : Option Addr) (c0_1 : Nat) (l0_1 : List (List (S71))) (a1 : Int) (r : Int) (w : World) (hr0_0 : Kd.C (Kd.slice 71 k71) w A0_0 l0_0.length l0_0) (hc0_0 : l0_0.length ≤ c0_0) (hr0_1 : Kd.C (Kd.slice 71 k71) w A0_1 l0_1.length l0_1) (hc0_1 : l0_1.length ≤ c0_1) (h : pump_planned.f l0_0 l0_1 a1 = some r) :
  Calls Try.prog 63 #[.agg #[.slice A0_0 l0_0.length c0_0, .slice A0_1 l0_1.length c0_1], .int .i64 a1] w fun e w' => e = .returned (.int .i64 r) ∧ Below w.heap.size w w' := by
 have hu40 := Try.underlying40
 have HR0_0 := zA hr0_0
 have HC0_0 := zA hc0_0
 clear hr0_0 hc0_0
 have HR0_1 := zA hr0_1
 have HC0_1 := zA hc0_1
 clear hr0_1 hc0_1
 have HB := zA (Below.refl w.heap.size w)
 have H : ((pump_Check.f l0_0 l0_1).bind fun t208 => (if t208 = 0 then ((pump_between.f 0 a1 200).bind fun t209 => (if t209 = true then (some t208) else (some 3))) else (some t208))) = some r := h
 clear h
 replace H := Option.bind_eq_some_iff.mp H
 obtain ⟨t208, A30, H⟩ := H
 replace H : (if t208 = 0 then ((pump_between.f 0 a1 200).bind fun t209 => (if t209 = true then (some t208) else (some 3))) else (some t208)) = some r := H
 have A3 := zA A30
 clear A30
 by_cases c4 : t208 = 0
 ·
  rw [if_pos c4] at H
  have c4b0 : (t208 == 0) = true := beq_iff_eq.mpr c4
  have c4b1 : (t208 != 0) = false := bne_eq_false_iff_eq.mpr c4
  clear c4
  replace H := Option.bind_eq_some_iff.mp H
  obtain ⟨t209, A50, H⟩ := H
  replace H : (if t209 = true then (some t208) else (some 3)) = some r := H
  have A5 := zA A50
  clear A50
  by_cases c6 : t209 = true
  ·
   subst c6
   have H1 : (some t208) = some r := by rw [if_pos rfl] at H; exact H
   clear H; have H := H1; clear H1
   obtain rfl := Option.some.inj H
   go_enter Try.func63, Try.ntmps63
   go_wp2_with (first | ((with_reducible refine gate_dst (N := 2) rfl ?_); refine box_event ?hg (N := 2) ?hd (cs := #[.slice A0_0 l0_0.length c0_0, .slice A0_1 l0_1.length c0_1]) (t := 40) ?hr ?_; (case hd => rfl); (case hg => rfl); (case hr => first | (go_simp; done) | (go_simp; rfl)); intro gb207 hg w7 hbox hb; have n0_ := zA (below_step (zqA HB.out) hb); have n1_ := zA (hbox); have n2_ := zA ((by rw [hg]; exact (below_size (zqA HB.out)) : w.heap.size ≤ gb207)); have n3_ := zA ((by rw [hg]; exact (below_size (zqA HB.out)) : w.heap.size ≤ gb207)); clear HB; have HB := n0_; have BK207 := n1_; have GW207 := n2_; have GE207 := n3_; clear n0_ n1_ n2_ n3_; clear hb hbox hg; have hcz8_0 : w7.cell? ⟨gb207, 0, none⟩ = some (.slice A0_0 l0_0.length c0_0) := (blk_cell BK207.out 0).trans rfl; have hcz8_1 : w7.cell? ⟨gb207, 1, none⟩ = some (.slice A0_1 l0_1.length c0_1) := (blk_cell BK207.out 1).trans rfl; have hfz8_0 := blk_frozen BK207.out 0; have hfz8_1 := blk_frozen BK207.out 1) | ((with_reducible refine gate_callee (f := 34) rfl ?_); refine goesL_ (some 7) rfl rfl Try.func34 (by kernel_rfl) rfl #[.agg #[.slice A0_0 l0_0.length c0_0, .slice A0_1 l0_1.length c0_1]] rfl zqE ?_; (with_reducible refine (pump_Check.calls _ _ l0_0 _ _ l0_1 t208 _ ?side1 ?side2 ?side3 ?side4 A3.out).mono ?_); (case side1 => exact zqK (Kd.C_below HR0_0.out HB.out)); (case side2 => exact HC0_0.out); (case side3 => exact zqK (Kd.C_below HR0_1.out HB.out)); (case side4 => exact HC0_1.out); rintro e w9 ⟨rfl, hb⟩; refine ⟨_, rfl, ?_⟩; have n0_ := zA (blk_below (g := gb207) (o := .cells #[.slice A0_0 l0_0.length c0_0, .slice A0_1 l0_1.length c0_1] 40 (0, 0)) (zqB BK207.out) hb); have n1_ := zA (below_step (zqG HB.out GE207.out) hb); clear BK207; clear HB; have BK207 := n0_; have HB := n1_; clear n0_ n1_; (try clear hb); (try clear hb2); (try clear hk); (try clear hi)) | (go_at_call 85; (with_reducible refine (pump_between.calls 0 a1 200 true _ A5.out).mono ?_); rintro e w' ⟨rfl, ⟨nd, rfl⟩⟩))
   go_ret
   exact ⟨zqR, zqG HB.out GE207.out⟩
  ·
   replace c6 := Bool.eq_false_iff.mpr c6
   subst c6
   have H1 : (some 3) = some r := by rw [if_neg (show ¬ (false = true) by decide)] at H; exact H
   clear H; have H := H1; clear H1
   obtain rfl := Option.some.inj H
   go_enter Try.func63, Try.ntmps63
   go_wp2_with (first | ((with_reducible refine gate_dst (N := 2) rfl ?_); refine box_event ?hg (N := 2) ?hd (cs := #[.slice A0_0 l0_0.length c0_0, .slice A0_1 l0_1.length c0_1]) (t := 40) ?hr ?_; (case hd => rfl); (case hg => rfl); (case hr => first | (go_simp; done) | (go_simp; rfl)); intro gb207 hg w10 hbox hb; have n0_ := zA (below_step (zqA HB.out) hb); have n1_ := zA (hbox); have n2_ := zA ((by rw [hg]; exact (below_size (zqA HB.out)) : w.heap.size ≤ gb207)); have n3_ := zA ((by rw [hg]; exact (below_size (zqA HB.out)) : w.heap.size ≤ gb207)); clear HB; have HB := n0_; have BK207 := n1_; have GW207 := n2_; have GE207 := n3_; clear n0_ n1_ n2_ n3_; clear hb hbox hg; have hcz11_0 : w10.cell? ⟨gb207, 0, none⟩ = some (.slice A0_0 l0_0.length c0_0) := (blk_cell BK207.out 0).trans rfl; have hcz11_1 : w10.cell? ⟨gb207, 1, none⟩ = some (.slice A0_1 l0_1.length c0_1) := (blk_cell BK207.out 1).trans rfl; have hfz11_0 := blk_frozen BK207.out 0; have hfz11_1 := blk_frozen BK207.out 1) | ((with_reducible refine gate_callee (f := 34) rfl ?_); refine goesL_ (some 7) rfl rfl Try.func34 (by kernel_rfl) rfl #[.agg #[.slice A0_0 l0_0.length c0_0, .slice A0_1 l0_1.length c0_1]] rfl zqE ?_; (with_reducible refine (pump_Check.calls _ _ l0_0 _ _ l0_1 t208 _ ?side1 ?side2 ?side3 ?side4 A3.out).mono ?_); (case side1 => exact zqK (Kd.C_below HR0_0.out HB.out)); (case side2 => exact HC0_0.out); (case side3 => exact zqK (Kd.C_below HR0_1.out HB.out)); (case side4 => exact HC0_1.out); rintro e w12 ⟨rfl, hb⟩; refine ⟨_, rfl, ?_⟩; have n0_ := zA (blk_below (g := gb207) (o := .cells #[.slice A0_0 l0_0.length c0_0, .slice A0_1 l0_1.length c0_1] 40 (0, 0)) (zqB BK207.out) hb); have n1_ := zA (below_step (zqG HB.out GE207.out) hb); clear BK207; clear HB; have BK207 := n0_; have HB := n1_; clear n0_ n1_; (try clear hb); (try clear hb2); (try clear hk); (try clear hi)) | (go_at_call 85; (with_reducible refine (pump_between.calls 0 a1 200 false _ A5.out).mono ?_); rintro e w' ⟨rfl, ⟨nd, rfl⟩⟩))
   go_ret
   exact ⟨zqR, zqG HB.out GE207.out⟩
 ·
  rw [if_neg c4] at H
  have c4b0 : (t208 == 0) = false := beq_eq_false_iff_ne.mpr c4
  have c4b1 : (t208 != 0) = true := bne_iff_ne.mpr c4
  obtain rfl := Option.some.inj H
  go_enter Try.func63, Try.ntmps63
  go_wp2_with (first | ((with_reducible refine gate_dst (N := 2) rfl ?_); refine box_event ?hg (N := 2) ?hd (cs := #[.slice A0_0 l0_0.length c0_0, .slice A0_1 l0_1.length c0_1]) (t := 40) ?hr ?_; (case hd => rfl); (case hg => rfl); (case hr => first | (go_simp; done) | (go_simp; rfl)); intro gb207 hg w13 hbox hb; have n0_ := zA (below_step (zqA HB.out) hb); have n1_ := zA (hbox); have n2_ := zA ((by rw [hg]; exact (below_size (zqA HB.out)) : w.heap.size ≤ gb207)); have n3_ := zA ((by rw [hg]; exact (below_size (zqA HB.out)) : w.heap.size ≤ gb207)); clear HB; have HB := n0_; have BK207 := n1_; have GW207 := n2_; have GE207 := n3_; clear n0_ n1_ n2_ n3_; clear hb hbox hg; have hcz14_0 : w13.cell? ⟨gb207, 0, none⟩ = some (.slice A0_0 l0_0.length c0_0) := (blk_cell BK207.out 0).trans rfl; have hcz14_1 : w13.cell? ⟨gb207, 1, none⟩ = some (.slice A0_1 l0_1.length c0_1) := (blk_cell BK207.out 1).trans rfl; have hfz14_0 := blk_frozen BK207.out 0; have hfz14_1 := blk_frozen BK207.out 1) | ((with_reducible refine gate_callee (f := 34) rfl ?_); refine goesL_ (some 7) rfl rfl Try.func34 (by kernel_rfl) rfl #[.agg #[.slice A0_0 l0_0.length c0_0, .slice A0_1 l0_1.length c0_1]] rfl zqE ?_; (with_reducible refine (pump_Check.calls _ _ l0_0 _ _ l0_1 t208 _ ?side1 ?side2 ?side3 ?side4 A3.out).mono ?_); (case side1 => exact zqK (Kd.C_below HR0_0.out HB.out)); (case side2 => exact HC0_0.out); (case side3 => exact zqK (Kd.C_below HR0_1.out HB.out)); (case side4 => exact HC0_1.out); rintro e w15 ⟨rfl, hb⟩; refine ⟨_, rfl, ?_⟩; have n0_ := zA (blk_below (g := gb207) (o := .cells #[.slice A0_0 l0_0.length c0_0, .slice A0_1 l0_1.length c0_1] 40 (0, 0)) (zqB BK207.out) hb); have n1_ := zA (below_step (zqG HB.out GE207.out) hb); clear BK207; clear HB; have BK207 := n0_; have HB := n1_; clear n0_ n1_; (try clear hb); (try clear hb2); (try clear hk); (try clear hi)))
  go_ret
  exact ⟨zqR, zqG HB.out GE207.out⟩
def pump_Row.f (l0_0 : List (List (S71))) (l0_1 : List (List (S71))) (a1 : Int) : Option (Int × Int) := (pump_planned.f l0_0 l0_1 a1).bind fun t211 => (if t211 = 0 then ((pump_Plant_row.f l0_0 l0_1 a1).bind fun t212 => (if 0 ≤ a1 then (if a1 < (t212.length : Int) then (some (rd t212 a1, 0)) else (none)) else (none))) else (some (0, t211)))
set_option maxHeartbeats 8000000 in
set_option maxRecDepth 100000 in
theorem pump_Row.calls (A0_0 : Option Addr) (c0_0 : Nat) (l0_0 : List (List (S71))) (A0_1 : Option Addr) (c0_1 : Nat) (l0_1 : List (List (S71))) (a1 : Int) (r1 : Int) (r2 : Int) (w : World) (hr0_0 : Kd.C (Kd.slice 71 k71) w A0_0 l0_0.length l0_0) (hc0_0 : l0_0.length ≤ c0_0) (hr0_1 : Kd.C (Kd.slice 71 k71) w A0_1 l0_1.length l0_1) (hc0_1 : l0_1.length ≤ c0_1) (h : pump_Row.f l0_0 l0_1 a1 = some (r1, r2)) :
  Calls Try.prog 28 #[.agg #[.slice A0_0 l0_0.length c0_0, .slice A0_1 l0_1.length c0_1], .int .i64 a1] w fun e w' => e = .returned (.tuple #[.int .i64 r1, .int .i64 r2]) ∧ Below w.heap.size w w' := by
 have hu40 := Try.underlying40
 have HR0_0 := zA hr0_0
 have HC0_0 := zA hc0_0
 clear hr0_0 hc0_0
 have HR0_1 := zA hr0_1
 have HC0_1 := zA hc0_1
 clear hr0_1 hc0_1
 have HB := zA (Below.refl w.heap.size w)
 have H : ((pump_planned.f l0_0 l0_1 a1).bind fun t211 => (if t211 = 0 then ((pump_Plant_row.f l0_0 l0_1 a1).bind fun t212 => (if 0 ≤ a1 then (if a1 < (t212.length : Int) then (some (rd t212 a1, 0)) else (none)) else (none))) else (some (0, t211)))) = some (r1, r2) := h
 clear h
 replace H := Option.bind_eq_some_iff.mp H
 obtain ⟨t211, A30, H⟩ := H
 replace H : (if t211 = 0 then ((pump_Plant_row.f l0_0 l0_1 a1).bind fun t212 => (if 0 ≤ a1 then (if a1 < (t212.length : Int) then (some (rd t212 a1, 0)) else (none)) else (none))) else (some (0, t211))) = some (r1, r2) := H
 have A3 := zA A30
 clear A30
 by_cases c4 : t211 = 0
 ·
  rw [if_pos c4] at H
  have c4b0 : (t211 == 0) = true := beq_iff_eq.mpr c4
  have c4b1 : (t211 != 0) = false := bne_eq_false_iff_eq.mpr c4
  clear c4
  replace H := Option.bind_eq_some_iff.mp H
  obtain ⟨t212, A50, H⟩ := H
  replace H : (if 0 ≤ a1 then (if a1 < (t212.length : Int) then (some (rd t212 a1, 0)) else (none)) else (none)) = some (r1, r2) := H
  have A5 := zA A50
  clear A50
  by_cases c6 : 0 ≤ a1
  ·
   rw [if_pos c6] at H
   have c6b0 : decide (0 ≤ a1) = true := decide_eq_true c6
   clear c6
   by_cases c7 : a1 < (t212.length : Int)
   ·
    rw [if_pos c7] at H
    have c7b0 : decide (a1 < (t212.length : Int)) = true := decide_eq_true c7
    clear c7
    simp only [Option.some.injEq, Prod.mk.injEq] at H
    obtain ⟨rfl, rfl⟩ := H
    go_enter Try.func28, Try.ntmps28
    go_wp2_with (first | ((with_reducible refine gate_dst (N := 2) rfl ?_); refine box_event ?hg (N := 2) ?hd (cs := #[.slice A0_0 l0_0.length c0_0, .slice A0_1 l0_1.length c0_1]) (t := 40) ?hr ?_; (case hd => rfl); (case hg => rfl); (case hr => first | (go_simp; done) | (go_simp; rfl)); intro gb210 hg w8 hbox hb; have n0_ := zA (below_step (zqA HB.out) hb); have n1_ := zA (hbox); have n2_ := zA ((by rw [hg]; exact (below_size (zqA HB.out)) : w.heap.size ≤ gb210)); have n3_ := zA ((by rw [hg]; exact (below_size (zqA HB.out)) : w.heap.size ≤ gb210)); clear HB; have HB := n0_; have BK210 := n1_; have GW210 := n2_; have GE210 := n3_; clear n0_ n1_ n2_ n3_; clear hb hbox hg; have hcz9_0 : w8.cell? ⟨gb210, 0, none⟩ = some (.slice A0_0 l0_0.length c0_0) := (blk_cell BK210.out 0).trans rfl; have hcz9_1 : w8.cell? ⟨gb210, 1, none⟩ = some (.slice A0_1 l0_1.length c0_1) := (blk_cell BK210.out 1).trans rfl; have hfz9_0 := blk_frozen BK210.out 0; have hfz9_1 := blk_frozen BK210.out 1) | ((with_reducible refine gate_callee (f := 63) rfl ?_); refine goesL_ (some 9) rfl rfl Try.func63 (by kernel_rfl) rfl #[.agg #[.slice A0_0 l0_0.length c0_0, .slice A0_1 l0_1.length c0_1], .int .i64 a1] rfl zqE ?_; (with_reducible refine (pump_planned.calls _ _ l0_0 _ _ l0_1 a1 t211 _ ?side1 ?side2 ?side3 ?side4 A3.out).mono ?_); (case side1 => exact zqK (Kd.C_below HR0_0.out HB.out)); (case side2 => exact HC0_0.out); (case side3 => exact zqK (Kd.C_below HR0_1.out HB.out)); (case side4 => exact HC0_1.out); rintro e w10 ⟨rfl, hb⟩; refine ⟨_, rfl, ?_⟩; have n0_ := zA (blk_below (g := gb210) (o := .cells #[.slice A0_0 l0_0.length c0_0, .slice A0_1 l0_1.length c0_1] 40 (0, 0)) (zqB BK210.out) hb); have n1_ := zA (below_step (zqG HB.out GE210.out) hb); clear BK210; clear HB; have BK210 := n0_; have HB := n1_; clear n0_ n1_; (try clear hb); (try clear hb2); (try clear hk); (try clear hi); have hcz11_0 : w10.cell? ⟨gb210, 0, none⟩ = some (.slice A0_0 l0_0.length c0_0) := (blk_cell BK210.out 0).trans rfl; have hcz11_1 : w10.cell? ⟨gb210, 1, none⟩ = some (.slice A0_1 l0_1.length c0_1) := (blk_cell BK210.out 1).trans rfl; have hfz11_0 := blk_frozen BK210.out 0; have hfz11_1 := blk_frozen BK210.out 1) | ((with_reducible refine gate_callee (f := 64) rfl ?_); refine goesL_ (some 15) rfl rfl Try.func64 (by kernel_rfl) rfl #[.agg #[.slice A0_0 l0_0.length c0_0, .slice A0_1 l0_1.length c0_1], .int .i64 a1] rfl zqE ?_; (with_reducible refine (pump_Plant_row.calls _ _ l0_0 _ _ l0_1 a1 t212 _ ?side1 ?side2 ?side3 ?side4 A5.out).mono ?_); (case side1 => exact zqK (Kd.C_below HR0_0.out HB.out)); (case side2 => exact HC0_0.out); (case side3 => exact zqK (Kd.C_below HR0_1.out HB.out)); (case side4 => exact HC0_1.out); rintro e w12 ⟨v213, rfl, ho0, hb⟩; refine ⟨_, rfl, ?_⟩; have n0_ := zA (Kd.R_lower ho0 (below_size (zqG HB.out GE210.out))); have n1_ := zA (blk_below (g := gb210) (o := .cells #[.slice A0_0 l0_0.length c0_0, .slice A0_1 l0_1.length c0_1] 40 (0, 0)) (zqB BK210.out) hb); have n2_ := zA (below_step (zqG HB.out GE210.out) hb); clear BK210; clear HB; have HO214 := n0_; have BK210 := n1_; have HB := n2_; clear n0_ n1_ n2_; (try clear hb); (try clear hb2); (try clear hk); (try clear hi); (try clear ho0); obtain ⟨Ao13, co13, eo13⟩ := Kd.R_slice HO214.out; subst eo13; have p215 : 0 ≤ (a1 : Int) := of_decide_eq_true (zqD); have q215 : a1 < (t212.length : Int) := of_decide_eq_true (zqD); obtain ⟨ad215, e215, hx215_0⟩ := Kd.at_int (Kd.R_reads' HO214.out).2.2 a1 p215 q215; cases e215; replace p215 := eq_true p215; replace q215 := eq_true q215))
    go_ret2
    exact ⟨zqR, zqG HB.out GE210.out⟩
   ·
    rw [if_neg c7] at H
    exact absurd H (by simp)
  ·
   rw [if_neg c6] at H
   exact absurd H (by simp)
 ·
  rw [if_neg c4] at H
  have c4b0 : (t211 == 0) = false := beq_eq_false_iff_ne.mpr c4
  have c4b1 : (t211 != 0) = true := bne_iff_ne.mpr c4
  simp only [Option.some.injEq, Prod.mk.injEq] at H
  obtain ⟨rfl, rfl⟩ := H
  go_enter Try.func28, Try.ntmps28
  go_wp2_with (first | ((with_reducible refine gate_dst (N := 2) rfl ?_); refine box_event ?hg (N := 2) ?hd (cs := #[.slice A0_0 l0_0.length c0_0, .slice A0_1 l0_1.length c0_1]) (t := 40) ?hr ?_; (case hd => rfl); (case hg => rfl); (case hr => first | (go_simp; done) | (go_simp; rfl)); intro gb210 hg w14 hbox hb; have n0_ := zA (below_step (zqA HB.out) hb); have n1_ := zA (hbox); have n2_ := zA ((by rw [hg]; exact (below_size (zqA HB.out)) : w.heap.size ≤ gb210)); have n3_ := zA ((by rw [hg]; exact (below_size (zqA HB.out)) : w.heap.size ≤ gb210)); clear HB; have HB := n0_; have BK210 := n1_; have GW210 := n2_; have GE210 := n3_; clear n0_ n1_ n2_ n3_; clear hb hbox hg; have hcz15_0 : w14.cell? ⟨gb210, 0, none⟩ = some (.slice A0_0 l0_0.length c0_0) := (blk_cell BK210.out 0).trans rfl; have hcz15_1 : w14.cell? ⟨gb210, 1, none⟩ = some (.slice A0_1 l0_1.length c0_1) := (blk_cell BK210.out 1).trans rfl; have hfz15_0 := blk_frozen BK210.out 0; have hfz15_1 := blk_frozen BK210.out 1) | ((with_reducible refine gate_callee (f := 63) rfl ?_); refine goesL_ (some 9) rfl rfl Try.func63 (by kernel_rfl) rfl #[.agg #[.slice A0_0 l0_0.length c0_0, .slice A0_1 l0_1.length c0_1], .int .i64 a1] rfl zqE ?_; (with_reducible refine (pump_planned.calls _ _ l0_0 _ _ l0_1 a1 t211 _ ?side1 ?side2 ?side3 ?side4 A3.out).mono ?_); (case side1 => exact zqK (Kd.C_below HR0_0.out HB.out)); (case side2 => exact HC0_0.out); (case side3 => exact zqK (Kd.C_below HR0_1.out HB.out)); (case side4 => exact HC0_1.out); rintro e w16 ⟨rfl, hb⟩; refine ⟨_, rfl, ?_⟩; have n0_ := zA (blk_below (g := gb210) (o := .cells #[.slice A0_0 l0_0.length c0_0, .slice A0_1 l0_1.length c0_1] 40 (0, 0)) (zqB BK210.out) hb); have n1_ := zA (below_step (zqG HB.out GE210.out) hb); clear BK210; clear HB; have BK210 := n0_; have HB := n1_; clear n0_ n1_; (try clear hb); (try clear hb2); (try clear hk); (try clear hi)))
  go_ret2
  exact ⟨zqR, zqG HB.out GE210.out⟩
end Go.Proofs.Ythoeindopljmkaa.P
end
section
namespace Go.Proofs.Ythoeindopljmkaa.P
open Go.RowKit Go.Proofs.YthoeindopljmkaaW.PrintWords Go.Proofs.YthoeindopljmkaaW.PrintLast Go.Proofs.YthoeindopljmkaaW.PrintMore
attribute [local go_sem] field107
attribute [local go_sem] max2_int min2_int max_two min_two max_three min_three max_four min_four
set_option linter.unusedVariables false
set_option linter.unusedSimpArgs false
mutual
def pump_Plant_demands.l0 : Nat → Int → List Int → List (List (S71)) → Int → Int → Option (List Int)
  | 0, _, _, _, _, _ => none
  | k + 1, x1, x5, x14, x15, x16 => if x16 < x15 then (if 0 ≤ x16 then (if x16 < (x14.length : Int) then ((tabled_most.f (rd_L4 x14 x16) x1).bind fun bt251 => (pump_Plant_demands.l1 k x1 x5 x14 x15 x16 bt251.1 (bt251.1.length : Int) 0)) else (none)) else (none)) else (some x5)
def pump_Plant_demands.l1 : Nat → Int → List Int → List (List (S71)) → Int → Int → List Int → Int → Int → Option (List Int)
  | 0, _, _, _, _, _, _, _, _ => none
  | k + 1, x1, x5, x14, x15, x16, x24, x25, x26 => if x26 < x25 then (if 0 ≤ x26 then (if x26 < (x24.length : Int) then (if x26 < (x5.length : Int) then (pump_Plant_demands.l1 k x1 (x5.set (x26 : Int).toNat (wrap64 ((rd x5 x26) + (rd x24 x26)))) x14 x15 x16 x24 x25 (wrap64 (x26 + 1))) else (none)) else (none)) else (none)) else (pump_Plant_demands.l0 k x1 x5 x14 x15 (wrap64 (x16 + 1)))
end
def pump_Plant_demands.f (k : Nat) (l0_0 : List (List (S71))) (l0_1 : List (List (S71))) (a1 : Int) : Option (List Int) := if 0 ≤ (wrap64 (a1 + 1)) then (if (wrap64 (a1 + 1) : Int).toNat ≤ 35184372088832 then (pump_Plant_demands.l0 k a1 (List.replicate (wrap64 (a1 + 1) : Int).toNat 0) l0_0 (l0_0.length : Int) 0) else (none)) else (none)
set_option maxHeartbeats 8000000 in
set_option maxRecDepth 100000 in
theorem pump_Plant_demands.calls (k : Nat) (A0_0 : Option Addr) (c0_0 : Nat) (l0_0 : List (List (S71))) (A0_1 : Option Addr) (c0_1 : Nat) (l0_1 : List (List (S71))) (a1 : Int) (r : List Int) (w : World) (hr0_0 : Kd.C (Kd.slice 71 k71) w A0_0 l0_0.length l0_0) (hc0_0 : l0_0.length ≤ c0_0) (hr0_1 : Kd.C (Kd.slice 71 k71) w A0_1 l0_1.length l0_1) (hc0_1 : l0_1.length ≤ c0_1) (h : pump_Plant_demands.f k l0_0 l0_1 a1 = some r) :
  Calls Try.prog 67 #[.agg #[.slice A0_0 l0_0.length c0_0, .slice A0_1 l0_1.length c0_1], .int .i64 a1] w fun e w' => ∃ v0_ : Value, e = .returned (v0_) ∧ Kd.R (Kd.int .i64) 3 w' w.heap.size (fun _ => True) v0_ r ∧ Below w.heap.size w w' := by
 have hu40 := Try.underlying40
 have HR0_0 := zA hr0_0
 have HC0_0 := zA hc0_0
 clear hr0_0 hc0_0
 have HR0_1 := zA hr0_1
 have HC0_1 := zA hc0_1
 clear hr0_1 hc0_1
 have HB := zA (Below.refl w.heap.size w)
 have H : (if 0 ≤ (wrap64 (a1 + 1)) then (if (wrap64 (a1 + 1) : Int).toNat ≤ 35184372088832 then (pump_Plant_demands.l0 k a1 (List.replicate (wrap64 (a1 + 1) : Int).toNat 0) l0_0 (l0_0.length : Int) 0) else (none)) else (none)) = some r := h
 clear h
 obtain ⟨ji3, hji3⟩ : ∃ j_ : Int, (wrap64 (a1 + 1)) = j_ := ⟨_, rfl⟩
 replace H : (if 0 ≤ (ji3) then (if (ji3 : Int).toNat ≤ 35184372088832 then (pump_Plant_demands.l0 k a1 (List.replicate (ji3 : Int).toNat 0) l0_0 (l0_0.length : Int) 0) else (none)) else (none)) = some r := by first | (rw [hji3] at H; exact H) | (simp only [hji3] at H ⊢; exact H)
 have hji3w : (IntKind.i64.wrap (a1 + 1)) = ji3 := (i64_w _).trans hji3
 by_cases c4 : 0 ≤ (ji3)
 ·
  rw [if_pos c4] at H
  have c4b0 := eq_true c4
  have c4b1 : decide (0 ≤ (ji3)) = true := decide_eq_true c4
  clear c4
  by_cases c5 : (ji3 : Int).toNat ≤ 35184372088832
  ·
   rw [if_pos c5] at H
   have c5b0 := eq_true c5
   have c5b1 : decide ((ji3 : Int).toNat ≤ 35184372088832) = true := decide_eq_true c5
   clear c5
   obtain ⟨y247, hy247⟩ : ∃ y_ : List Int, y_ = (List.replicate (ji3 : Int).toNat 0) := ⟨_, rfl⟩
   replace H : (pump_Plant_demands.l0 k a1 y247 l0_0 (l0_0.length : Int) 0) = some r := zqF hy247 H
   have Ny247 := zA hy247
   clear hy247
   have H' := zA H
   clear H
   go_enter Try.func67, Try.ntmps67
   go_wp2_with (first | ((with_reducible refine gate_dst (N := 2) rfl ?_); refine box_event ?hg (N := 2) ?hd (cs := #[.slice A0_0 l0_0.length c0_0, .slice A0_1 l0_1.length c0_1]) (t := 40) ?hr ?_; (case hd => rfl); (case hg => rfl); (case hr => first | (go_simp; done) | (go_simp; rfl)); intro gb246 hg w6 hbox hb; have n0_ := zA (below_step (zqA HB.out) hb); have n1_ := zA (hbox); have n2_ := zA ((by rw [hg]; exact (below_size (zqA HB.out)) : w.heap.size ≤ gb246)); have n3_ := zA ((by rw [hg]; exact (below_size (zqA HB.out)) : w.heap.size ≤ gb246)); clear HB; have HB := n0_; have BK246 := n1_; have GW246 := n2_; have GE246 := n3_; clear n0_ n1_ n2_ n3_; clear hb hbox hg) | ((with_reducible refine gate_dst (N := 12) rfl ?_); refine Kd.R_make (Kd.int .i64) _ 3 rfl (N := 12) rfl 30 _ _ rfl ji3 rfl rfl Try.underlying30 (.int .i64 0) 8 info3 rfl (by decide) (by omega) 0 (ok := fun _ => True) (okp := fun _ => True) rfl (fun _ hk => hk) trivial (of_decide_eq_true (zqD)) (Nat.le_trans (Nat.mul_le_mul_right _ (of_decide_eq_true (zqD) : ji3.toNat ≤ 35184372088832)) (by omega)) (Below.refl _ _) (Nat.le_refl _) ?_; intro v248 w7 ho8 hb hg_ hnew_; clear hg_ hnew_; (first | rw [← Ny247.out] at ho8 | (simp only [Int.reduceToNat] at ho8; rw [← Ny247.out] at ho8)); have n0_ := zA (Kd.R_lower ho8 (below_size (zqG HB.out GE246.out))); have n1_ := zA (blk_below (g := gb246) (o := .cells #[.slice A0_0 l0_0.length c0_0, .slice A0_1 l0_1.length c0_1] 40 (0, 0)) (zqB BK246.out) hb); have n2_ := zA (below_step (zqG HB.out GE246.out) hb); clear BK246; clear HB; have HO249 := n0_; have BK246 := n1_; have HB := n2_; clear n0_ n1_ n2_; clear hb ho8; have hcz9_0 : w7.cell? ⟨gb246, 0, none⟩ = some (.slice A0_0 l0_0.length c0_0) := (blk_cell BK246.out 0).trans rfl; have hcz9_1 : w7.cell? ⟨gb246, 1, none⟩ = some (.slice A0_1 l0_1.length c0_1) := (blk_cell BK246.out 1).trans rfl; have hfz9_0 := blk_frozen BK246.out 0; have hfz9_1 := blk_frozen BK246.out 1))
   go_loopg [16] k (fun kq v16 w' => ∃ (x5_1 : List Int) (x16_1 : Int), v16 = .int .i64 x16_1 ∧ Aside0 (pump_Plant_demands.l0 kq a1 x5_1 l0_0 (l0_0.length : Int) x16_1 = some r) ∧ Aside0 (kq ≤ k) ∧ Aside0 (Kd.R (Kd.int .i64) 3 w' w.heap.size (fun _ => True) v248 x5_1) ∧ Aside0 (w'.heap[gb246]? = some (.cells #[(.slice A0_0 l0_0.length c0_0), (.slice A0_1 l0_1.length c0_1)] 40 (0, 0))) ∧ Aside0 (Below w.heap.size w w'))
   case atStart => exact ⟨(y247), (0), zqQ, H', ⟨Nat.le_refl _⟩, ⟨zqC HO249.out⟩, ⟨zqB BK246.out⟩, ⟨zqG HB.out GE246.out⟩⟩
   case round =>
    clear H'
    try clear p2
    try clear c4
    try clear c4b0
    try clear c4b1
    try clear c5
    try clear c5b0
    try clear c5b1
    try clear c6
    try clear p6
    try clear hcz9_0
    try clear hcz9_1
    try clear hfz9_0
    try clear hfz9_1
    obtain ⟨x5_1, x16_1, rfl, HA, HK1, HO_5, BK246, HB⟩ := hrel
    cases gk with
    | zero => exact absurd HA.out (by simp [pump_Plant_demands.l0])
    | succ k1 =>
     have H := HA.out
     clear HA
     simp only [pump_Plant_demands.l0] at H
     by_cases c10 : x16_1 < (l0_0.length : Int)
     ·
      rw [if_pos c10] at H
      have c10b0 : decide (x16_1 < (l0_0.length : Int)) = true := decide_eq_true c10
      clear c10
      by_cases c11 : 0 ≤ x16_1
      ·
       rw [if_pos c11] at H
       have c11b0 : decide (0 ≤ x16_1) = true := decide_eq_true c11
       clear c11
       by_cases c12 : x16_1 < (l0_0.length : Int)
       ·
        rw [if_pos c12] at H
        have c12b0 : decide (x16_1 < (l0_0.length : Int)) = true := decide_eq_true c12
        clear c12
        replace H := Option.bind_eq_some_iff.mp H
        obtain ⟨⟨t251, t254⟩, A130, H⟩ := H
        replace H : (pump_Plant_demands.l1 k1 a1 x5_1 l0_0 (l0_0.length : Int) x16_1 t251 (t251.length : Int) 0) = some r := H
        have A13 := zA A130
        clear A130
        have H' := zA H
        clear H
        have p250 : 0 ≤ (x16_1 : Int) := of_decide_eq_true (zqD)
        have q250 : x16_1 < (l0_0.length : Int) := of_decide_eq_true (zqD)
        obtain ⟨ad250, A250_0, c250_0, e250, hx250_0, hl250_0, hi250_0⟩ := at_L4 HR0_0.out x16_1 p250 q250
        cases e250
        replace hx250_0 := (HB.out.cell (World.block_lt_of_cell? w _ hx250_0)).trans hx250_0
        have HR250_0 := zA hi250_0
        have HC250_0 := zA hl250_0
        clear hi250_0 hl250_0; replace p250 := eq_true p250; replace q250 := eq_true q250
        go_wp2_with (first | (go_at_call 70; (with_reducible refine (tabled_most.calls _ _ (rd_L4 l0_0 x16_1) a1 t251 t254 _ ?side1 ?side2 A13.out).mono ?_); (case side1 => exact zqK (Kd.C_below HR250_0.out HB.out)); (case side2 => exact HC250_0.out); rintro e w14 ⟨v252, v255, rfl, ho0, ho1, hb⟩; have n0_ := zA (Kd.R_mono (Kd.R_told (Kd.R_told (Kd.R_old (zqC HO_5.out) hb) (Kd.R_base ho0)) (Kd.R_base ho1)) (fun _ h_ => h_.1)); have n1_ := zA (Kd.R_lower (Kd.R_new' ho0 (Kd.R_lt (zqC HO_5.out))) (below_size (zqG HB.out GE246.out))); have n2_ := zA (Kd.R_lower (Kd.R_new' ho1 (Kd.R_lt (zqC HO_5.out))) (below_size (zqG HB.out GE246.out))); have n3_ := zA (blk_below (g := gb246) (o := .cells #[.slice (some ad250) l0_0.length c0_0, .slice A0_1 l0_1.length c0_1] 40 (0, 0)) (zqB BK246.out) hb); have n4_ := zA (below_step (zqG HB.out GE246.out) hb); clear HO_5; clear BK246; clear HB; have HO_5 := n0_; have HO253 := n1_; have HO256 := n2_; have BK246 := n3_; have HB := n4_; clear n0_ n1_ n2_ n3_ n4_; (try clear hb); (try clear hb2); (try clear hk); (try clear hi); (try clear ho0); (try clear ho1); obtain ⟨Ao15, co15, eo15⟩ := Kd.R_slice HO253.out; subst eo15; obtain ⟨Ap14, cp14, ep14⟩ := Kd.R_slice HO256.out; subst ep14))
        go_loopg [26] k1 (fun kq v26 w' => ∃ (x5_2 : List Int) (x26_2 : Int), v26 = .int .i64 x26_2 ∧ Aside0 (pump_Plant_demands.l1 kq a1 x5_2 l0_0 (l0_0.length : Int) x16_1 t251 (t251.length : Int) x26_2 = some r) ∧ Aside0 (kq ≤ k1) ∧ Aside0 (Kd.R (Kd.int .i64) 3 w' w.heap.size (fun k_ => some k_ ≠ ((.slice Ao15 t251.length co15) : Value).ownBlock) v248 x5_2) ∧ Aside0 (Kd.R (Kd.int .i64) 3 w' w.heap.size (fun k_ => some k_ ≠ (v248 : Value).ownBlock) (.slice Ao15 t251.length co15) t251) ∧ Aside0 (w'.heap[gb246]? = some (.cells #[(.slice (some ad250) l0_0.length c0_0), (.slice A0_1 l0_1.length c0_1)] 40 (0, 0))) ∧ Aside0 (Below w.heap.size w w'))
        case atStart => exact ⟨(x5_1), (0), zqQ, H', ⟨Nat.le_refl _⟩, ⟨by (with_reducible repeat (first | apply Kd.R_alloc | apply Kd.R_drewN | apply Kd.R_drew)); exact Kd.R_mono HO_5.out (fun _ hk => hk.1.2)⟩, ⟨by (with_reducible repeat (first | apply Kd.R_alloc | apply Kd.R_drewN | apply Kd.R_drew)); exact Kd.R_mono HO253.out (fun _ hk => hk.2)⟩, ⟨zqB BK246.out⟩, ⟨zqG HB.out GE246.out⟩⟩
        case round =>
         clear H'
         try clear c1
         try clear c2
         try clear p2
         try clear q2
         try clear hx2
         try clear c4
         try clear c4b0
         try clear c4b1
         try clear c5
         try clear c5b0
         try clear c5b1
         try clear c6
         try clear p6
         try clear c10
         try clear c10b0
         try clear c11
         try clear c11b0
         try clear c12
         try clear c12b0
         try clear hcz9_0
         try clear hcz9_1
         try clear hfz9_0
         try clear hfz9_1
         try clear hx250_0
         try clear p2
         try clear p250
         try clear p6
         try clear q250
         obtain ⟨x5_2, x26_2, rfl, HA, HK2, HO_5, HO_24, BK246, HB⟩ := hrel
         cases gk with
         | zero => exact absurd HA.out (by simp [pump_Plant_demands.l1])
         | succ k2 =>
          have H := HA.out
          clear HA
          simp only [pump_Plant_demands.l1] at H
          by_cases c16 : x26_2 < (t251.length : Int)
          ·
           rw [if_pos c16] at H
           have c16b0 : decide (x26_2 < (t251.length : Int)) = true := decide_eq_true c16
           clear c16
           by_cases c17 : 0 ≤ x26_2
           ·
            rw [if_pos c17] at H
            have c17b0 : decide (0 ≤ x26_2) = true := decide_eq_true c17
            clear c17
            by_cases c18 : x26_2 < (t251.length : Int)
            ·
             rw [if_pos c18] at H
             have c18b0 : decide (x26_2 < (t251.length : Int)) = true := decide_eq_true c18
             clear c18
             by_cases c19 : x26_2 < (x5_2.length : Int)
             ·
              rw [if_pos c19] at H
              have c19b0 : decide (x26_2 < (x5_2.length : Int)) = true := decide_eq_true c19
              clear c19
              obtain ⟨y259, hy259⟩ : ∃ y_ : List Int, y_ = (x5_2.set (x26_2 : Int).toNat (wrap64 ((rd x5_2 x26_2) + (rd t251 x26_2)))) := ⟨_, rfl⟩
              replace H : (pump_Plant_demands.l1 k2 a1 y259 l0_0 (l0_0.length : Int) x16_1 t251 (t251.length : Int) (wrap64 (x26_2 + 1))) = some r := zqF hy259 H
              have Ny259 := zA hy259
              clear hy259
              have H' := zA H
              clear H
              have p257 : 0 ≤ (x26_2 : Int) := of_decide_eq_true (zqD)
              have q257 : x26_2 < (t251.length : Int) := of_decide_eq_true (zqD)
              obtain ⟨ad257, e257, hx257_0⟩ := Kd.at_int (Kd.R_reads' HO_24.out).2.2 x26_2 p257 q257
              cases e257; replace p257 := eq_true p257; replace q257 := eq_true q257
              obtain ⟨Ao21, co21, eo21⟩ := Kd.R_slice HO_5.out
              subst eo21
              have p258 : 0 ≤ (x26_2 : Int) := of_decide_eq_true (zqD)
              have q258 : x26_2 < (x5_2.length : Int) := of_decide_eq_true (zqD)
              obtain ⟨ad258, e258, hx258_0⟩ := Kd.at_int (Kd.R_reads' HO_5.out).2.2 x26_2 p258 q258
              cases e258; replace p258 := eq_true p258; replace q258 := eq_true q258
              have p20 : 0 ≤ (x26_2 : Int) := of_decide_eq_true (zqD)
              have q20 : (x26_2 : Int) < ((x5_2.length : Int) : Int) := of_decide_eq_true (zqD)
              obtain ⟨go20, co20, eo20, gb20, gl20, cl20, HG20⟩ := Kd.R_form HO_5.out (by omega)
              (first | cases eo20 | (injection eo20 with ea_ en_ ec_; (first | subst ea_ | (injection ea_ with ea_; subst ea_)); subst ec_; clear en_))
              have GB20 := zA gb20
              have GG20 := zA HG20
              clear gb20 gl20 HG20
              (first | simp only [add_plain] at hx258_0 | skip)
              obtain ⟨hx20_0, hf20_0⟩ := Kd.R_celln 0 HO_5.out (x26_2 : Int) p20 q20
              replace p20 := eq_true p20; replace q20 := eq_true q20
              have HP22 := Kd.R_putg HO_5.out (x26_2 : Int) (wrap64 ((rd x5_2 x26_2) + (rd t251 x26_2)))
              go_wp2_with (first | ((with_reducible refine gate_store (t := 3) (p := 37) rfl ?_); refine store_event (t := 3) (p := 37) (v := ?vo_w23) (w1 := (wr.setCell ⟨go20, (x26_2 : Int).toNat, none⟩ (.int .i64 (wrap64 ((rd x5_2 x26_2) + (rd t251 x26_2)))))) ?hg ?ho ?hn ?hr ?_; (case ho => rfl); (case hg => rfl); (case hn => rfl); (case hr => first | (go_simp; done) | (go_simp; rfl)); intro w23 hw; have hg : wr.grownBy w23 (some go20) := (by rw [hw]; exact HP22.2); have hp_ : Kd.R (Kd.int .i64) 3 w23 w.heap.size (fun k_ => some k_ ≠ (.slice (some ad257) t251.length co15 : Value).ownBlock) (.slice (some ⟨go20, 0, none⟩) x5_2.length co21) y259 := (by rw [hw, Ny259.out]; exact HP22.1); clear HP22; have n0_ := zA (hp_); have n1_ := zA (Kd.R_after (v := (.slice (some ⟨go20, 0, none⟩) x5_2.length co21)) (v1 := (.slice (some ⟨go20, 0, none⟩) x5_2.length co21)) (ok := (fun _ => True)) (by (with_reducible repeat (first | apply Kd.R_alloc | apply Kd.R_drewN | apply Kd.R_drew)); exact Kd.R_mono HO_24.out (fun _ hk => ⟨trivial, hk⟩)) hg (.inl rfl)); have n2_ := zA (blk_grown (g := gb246) (o := .cells #[.slice (some ad250) l0_0.length c0_0, .slice A0_1 l0_1.length c0_1] 40 (0, 0)) (zqB BK246.out) hg (Kd.R_ne HO_5.out BK246.out (by decide))); have n3_ := zA ((by rw [hw]; exact below_set (HB.out) GB20.out : Below w.heap.size w w23)); clear HO_5; clear HO_24; clear BK246; clear HB; have HO_5 := n0_; have HO_24 := n1_; have BK246 := n2_; have HB := n3_; clear n0_ n1_ n2_ n3_; clear hg hw hp_))
              go_roundg k2
              case measure => have := HK1.out; have := HK2.out; omega
              case rel => exact ⟨(y259), (wrap64 (x26_2 + 1)), zqQ, H', ⟨by have := HK1.out; have := HK2.out; omega⟩, ⟨zqC HO_5.out⟩, ⟨by (with_reducible repeat (first | apply Kd.R_alloc | apply Kd.R_drewN | apply Kd.R_drew)); exact Kd.R_mono HO_24.out (fun _ hk => hk.2)⟩, ⟨zqB BK246.out⟩, ⟨zqG HB.out GE246.out⟩⟩
             ·
              rw [if_neg c19] at H
              exact absurd H (by simp)
            ·
             rw [if_neg c18] at H
             exact absurd H (by simp)
           ·
            rw [if_neg c17] at H
            exact absurd H (by simp)
          ·
           rw [if_neg c16] at H
           have c16b0 : decide (x26_2 < (t251.length : Int)) = false := decide_eq_false c16
           clear c16
           have H' := zA H
           clear H
           go_wp2
           go_roundg k2
           case measure => have := HK1.out; have := HK2.out; omega
           case rel => exact ⟨(x5_2), (wrap64 (x16_1 + 1)), zqQ, H', ⟨by have := HK1.out; have := HK2.out; omega⟩, ⟨by (with_reducible repeat (first | apply Kd.R_alloc | apply Kd.R_drewN | apply Kd.R_drew)); exact Kd.R_mono HO_5.out (fun _ hk => trivial)⟩, ⟨zqB BK246.out⟩, ⟨zqG HB.out GE246.out⟩⟩
       ·
        rw [if_neg c12] at H
        exact absurd H (by simp)
      ·
       rw [if_neg c11] at H
       exact absurd H (by simp)
     ·
      rw [if_neg c10] at H
      have c10b0 : decide (x16_1 < (l0_0.length : Int)) = false := decide_eq_false c10
      clear c10
      obtain rfl := Option.some.inj H
      go_wp2
      go_ret
      exact ⟨_, by first | rfl | (simp [errW_none, errW_some] <;> rfl) | (simp only [← hji3]; first | rfl | (simp [errW_none, errW_some] <;> rfl)) | (simp [*, errW_none, errW_some] <;> rfl), zqC HO_5.out, zqG HB.out GE246.out⟩
  ·
   rw [if_neg c5] at H
   exact absurd H (by simp)
 ·
  rw [if_neg c4] at H
  exact absurd H (by simp)
def pump_Drop.l0 : Nat → Int → Int → List Int → List Int → Int → Int → Option (Int × Int × Int)
  | 0, _, _, _, _, _, _ => none
  | k + 1, x4, x5, x8, x9, x25, x26 => if x26 < x25 then (if 0 ≤ x26 then (if x26 < (x8.length : Int) then (if x26 < (x9.length : Int) then (if (wrap64 ((rd x8 x26) - (rd x9 x26))) > x4 then (pump_Drop.l0 k (wrap64 ((rd x8 x26) - (rd x9 x26))) x26 x8 x9 x25 (wrap64 (x26 + 1))) else (pump_Drop.l0 k x4 x5 x8 x9 x25 (wrap64 (x26 + 1)))) else (none)) else (none)) else (none)) else (some (x4, x5, 0))
def pump_Drop.f (k : Nat) (l0_0 : List (List (S71))) (l0_1 : List (List (S71))) (a1 : Int) : Option (Int × Int × Int) := (pump_planned.f l0_0 l0_1 a1).bind fun t261 => (if t261 = 0 then ((pump_Plant_demands.f k l0_0 l0_1 a1).bind fun t262 => ((pump_Plant_row.f l0_0 l0_1 a1).bind fun t265 => (pump_Drop.l0 k 0 0 t262 t265 (t262.length : Int) 0))) else (some (0, 0, t261)))
def pump_Drop.T4 : Bool × List (List Nat × List Nat) := (true, [([], []), ([], []), ([0, 1], [0, 1]), ([], []), ([], []), ([3, 4, 2], [3, 4]), ([2, 5, 0, 1, 2], [2]), ([5, 6, 0, 1, 2, 3, 4, 5, 6], [5])])
def pump_Drop.B4 : List Nat := [0, 0, 3, 0, 0, 31, 63, 127]
theorem pump_Drop.tab4 : rtab .any (opsOf Try.f30 4) = pump_Drop.T4 := by kernel_rfl
theorem pump_Drop.bits4 : waitsOk pump_Drop.T4.2 pump_Drop.B4 = true := by kernel_rfl
def pump_Drop.T8 : Bool × List (List Nat × List Nat) := (true, [([], []), ([], []), ([0, 1], [0, 1]), ([2], [2]), ([], []), ([], []), ([4, 5], [4, 5]), ([6], [6]), ([3, 7], [3, 7]), ([8, 0, 1, 2, 3, 4, 5, 6, 7, 8], [8])])
def pump_Drop.B8 : List Nat := [0, 0, 3, 7, 0, 0, 48, 112, 255, 511]
theorem pump_Drop.tab8 : rtab .any (opsOf Try.f30 8) = pump_Drop.T8 := by kernel_rfl
theorem pump_Drop.bits8 : waitsOk pump_Drop.T8.2 pump_Drop.B8 = true := by kernel_rfl
set_option maxHeartbeats 8000000 in
set_option maxRecDepth 100000 in
theorem pump_Drop.calls (k : Nat) (A0_0 : Option Addr) (c0_0 : Nat) (l0_0 : List (List (S71))) (A0_1 : Option Addr) (c0_1 : Nat) (l0_1 : List (List (S71))) (a1 : Int) (r1 : Int) (r2 : Int) (r3 : Int) (w : World) (hr0_0 : Kd.C (Kd.slice 71 k71) w A0_0 l0_0.length l0_0) (hc0_0 : l0_0.length ≤ c0_0) (hr0_1 : Kd.C (Kd.slice 71 k71) w A0_1 l0_1.length l0_1) (hc0_1 : l0_1.length ≤ c0_1) (h : pump_Drop.f k l0_0 l0_1 a1 = some (r1, r2, r3)) :
  Calls Try.prog 30 #[.agg #[.slice A0_0 l0_0.length c0_0, .slice A0_1 l0_1.length c0_1], .int .i64 a1] w fun e w' => e = .returned (.tuple #[.int .i64 r1, .int .i64 r2, .int .i64 r3]) ∧ Below w.heap.size w w' := by
 have hu40 := Try.underlying40
 have HR0_0 := zA hr0_0
 have HC0_0 := zA hc0_0
 clear hr0_0 hc0_0
 have HR0_1 := zA hr0_1
 have HC0_1 := zA hc0_1
 clear hr0_1 hc0_1
 have HB := zA (Below.refl w.heap.size w)
 have H : ((pump_planned.f l0_0 l0_1 a1).bind fun t261 => (if t261 = 0 then ((pump_Plant_demands.f k l0_0 l0_1 a1).bind fun t262 => ((pump_Plant_row.f l0_0 l0_1 a1).bind fun t265 => (pump_Drop.l0 k 0 0 t262 t265 (t262.length : Int) 0))) else (some (0, 0, t261)))) = some (r1, r2, r3) := h
 clear h
 replace H := Option.bind_eq_some_iff.mp H
 obtain ⟨t261, A30, H⟩ := H
 replace H : (if t261 = 0 then ((pump_Plant_demands.f k l0_0 l0_1 a1).bind fun t262 => ((pump_Plant_row.f l0_0 l0_1 a1).bind fun t265 => (pump_Drop.l0 k 0 0 t262 t265 (t262.length : Int) 0))) else (some (0, 0, t261))) = some (r1, r2, r3) := H
 have A3 := zA A30
 clear A30
 by_cases c4 : t261 = 0
 ·
  rw [if_pos c4] at H
  have c4b0 : (t261 == 0) = true := beq_iff_eq.mpr c4
  have c4b1 : (t261 != 0) = false := bne_eq_false_iff_eq.mpr c4
  clear c4
  replace H := Option.bind_eq_some_iff.mp H
  obtain ⟨t262, A50, H⟩ := H
  replace H : ((pump_Plant_row.f l0_0 l0_1 a1).bind fun t265 => (pump_Drop.l0 k 0 0 t262 t265 (t262.length : Int) 0)) = some (r1, r2, r3) := H
  have A5 := zA A50
  clear A50
  replace H := Option.bind_eq_some_iff.mp H
  obtain ⟨t265, A60, H⟩ := H
  replace H : (pump_Drop.l0 k 0 0 t262 t265 (t262.length : Int) 0) = some (r1, r2, r3) := H
  have A6 := zA A60
  clear A60
  have H' := zA H
  clear H
  go_enter Try.func30, Try.ntmps30
  try go_wp2_with (first | ((with_reducible refine gate_dst (N := 2) rfl ?_); refine box_event ?hg (N := 2) ?hd (cs := #[.slice A0_0 l0_0.length c0_0, .slice A0_1 l0_1.length c0_1]) (t := 40) ?hr ?_; (case hd => rfl); (case hg => rfl); (case hr => first | (go_simp; done) | (go_simp; rfl)); intro gb260 hg w7 hbox hb; have n0_ := zA (below_step (zqA HB.out) hb); have n1_ := zA (hbox); have n2_ := zA ((by rw [hg]; exact (below_size (zqA HB.out)) : w.heap.size ≤ gb260)); have n3_ := zA ((by rw [hg]; exact (below_size (zqA HB.out)) : w.heap.size ≤ gb260)); clear HB; have HB := n0_; have BK260 := n1_; have GW260 := n2_; have GE260 := n3_; clear n0_ n1_ n2_ n3_; clear hb hbox hg; have hcz8_0 : w7.cell? ⟨gb260, 0, none⟩ = some (.slice A0_0 l0_0.length c0_0) := (blk_cell BK260.out 0).trans rfl; have hcz8_1 : w7.cell? ⟨gb260, 1, none⟩ = some (.slice A0_1 l0_1.length c0_1) := (blk_cell BK260.out 1).trans rfl; have hfz8_0 := blk_frozen BK260.out 0; have hfz8_1 := blk_frozen BK260.out 1) | ((with_reducible refine gate_callee (f := 63) rfl ?_); refine goesL_ (some 14) rfl rfl Try.func63 (by kernel_rfl) rfl #[.agg #[.slice A0_0 l0_0.length c0_0, .slice A0_1 l0_1.length c0_1], .int .i64 a1] rfl zqE ?_; (with_reducible refine (pump_planned.calls _ _ l0_0 _ _ l0_1 a1 t261 _ ?side1 ?side2 ?side3 ?side4 A3.out).mono ?_); (case side1 => exact zqK (Kd.C_below HR0_0.out HB.out)); (case side2 => exact HC0_0.out); (case side3 => exact zqK (Kd.C_below HR0_1.out HB.out)); (case side4 => exact HC0_1.out); rintro e w9 ⟨rfl, hb⟩; refine ⟨_, rfl, ?_⟩; have n0_ := zA (blk_below (g := gb260) (o := .cells #[.slice A0_0 l0_0.length c0_0, .slice A0_1 l0_1.length c0_1] 40 (0, 0)) (zqB BK260.out) hb); have n1_ := zA (below_step (zqG HB.out GE260.out) hb); clear BK260; clear HB; have BK260 := n0_; have HB := n1_; clear n0_ n1_; (try clear hb); (try clear hb2); (try clear hk); (try clear hi)))
  have n0_ := zA (blk_drew BK260.out); have n1_ := zA (below_drew1 HB.out); clear BK260 HB; have BK260 := n0_; have HB := n1_; clear n0_ n1_
  refine start_ (n := 8) (S := fun w' => w'.cell? ⟨gb260, 0, none⟩ = some (.slice A0_0 l0_0.length c0_0) ∧ w'.cell? ⟨gb260, 1, none⟩ = some (.slice A0_1 l0_1.length c0_1)) (ds := []) #[false, false, false, false, false, false, false, false] (by kernel_rfl) rfl rfl ⟨(blk_cell BK260.out 0).trans rfl, (blk_cell BK260.out 1).trans rfl⟩ (fun hHeld => ?_); refine with_tabW pump_Drop.tab4 pump_Drop.bits4 (fun HT_ HW_ => ?_)
  generalize w9.drew = w10 at BK260 HB hHeld ⊢
  refine pure_ (i := 1) (N := some 19) (v := ?_) (a' := ?_) #[false, true, false, false, false, false, false, false] rfl rfl (any_of HT_.out (by kernel_rfl)) (fun _ _ _ h => h) (Or.inl ⟨by rfl, ?_⟩) ?_ ?_
  rotate_left
  ·
   intro w'
   go_simp
   with_reducible rfl
  rotate_left
  ·
   simp only [Act.put, List.setIfInBounds_toArray, List.set_cons_zero, List.set_cons_succ, i64_w, i32_w]
   rfl
  refine pure_ (i := 4) (N := some 22) (v := ?_) (a' := ?_) #[false, true, false, false, true, false, false, false] rfl rfl (any_of HT_.out (by kernel_rfl)) (fun _ _ _ h => h) (Or.inl ⟨by rfl, ?_⟩) ?_ ?_
  rotate_left
  ·
   intro w'
   go_simp
   with_reducible rfl
  rotate_left
  ·
   simp only [Act.put, List.setIfInBounds_toArray, List.set_cons_zero, List.set_cons_succ, i64_w, i32_w]
   rfl
  refine take_ (i := 0) (N := some 18) (v := ?_) (a' := ?_) #[true, true, false, false, true, false, false, false] rfl rfl (take_ofW HT_.out HW_.out (by kernel_rfl)) (fun _ _ _ h => h) (Or.inl ⟨by rfl, ?_⟩) hHeld ?_ ?_
  rotate_left
  ·
   rintro w' ⟨s0, s1⟩
   go_simp
   with_reducible rfl
  rotate_left
  ·
   simp only [Act.put, List.setIfInBounds_toArray, List.set_cons_zero, List.set_cons_succ, i64_w, i32_w]
   rfl
  refine take_ (i := 3) (N := some 21) (v := ?_) (a' := ?_) #[true, true, false, true, true, false, false, false] rfl rfl (take_ofW HT_.out HW_.out (by kernel_rfl)) (fun _ _ _ h => h) (Or.inl ⟨by rfl, ?_⟩) hHeld ?_ ?_
  rotate_left
  ·
   rintro w' ⟨s0, s1⟩
   go_simp
   with_reducible rfl
  rotate_left
  ·
   simp only [Act.put, List.setIfInBounds_toArray, List.set_cons_zero, List.set_cons_succ, i64_w, i32_w]
   rfl
  refine one_ (i := 2) (N := some 20) #[true, true, true, true, true, false, false, false] rfl rfl (one_of HT_.out (by kernel_rfl)) (by decide) (fun K hK => ?_)
  refine goes_ Try.func67 (by kernel_rfl) rfl #[.agg #[.slice A0_0 l0_0.length c0_0, .slice A0_1 l0_1.length c0_1], .int .i64 a1] (by rfl) rfl rfl zqE ?_
  with_reducible refine (pump_Plant_demands.calls k _ _ l0_0 _ _ l0_1 a1 t262 _ ?side1 ?side2 ?side3 ?side4 A5.out).mono ?_
  (case side1 => exact zqK (Kd.C_below HR0_0.out HB.out))
  (case side2 => exact HC0_0.out)
  (case side3 => exact zqK (Kd.C_below HR0_1.out HB.out))
  (case side4 => exact HC0_1.out)
  rintro e w11 ⟨v263, rfl, ho0, hb⟩
  refine ⟨_, rfl, ?_⟩
  have n0_ := zA (Kd.R_lower ho0 (below_size (zqG HB.out GE260.out))); have n1_ := zA (blk_below (g := gb260) (zqB BK260.out) hb); have n2_ := zA (below_step (zqG HB.out GE260.out) hb); clear BK260 HB; have HO264 := n0_; have BK260 := n1_; have HB := n2_; clear n0_ n1_ n2_
  (try clear hb)
  (try clear hb2)
  (try clear hk)
  (try clear hi)
  (try clear ho0)
  refine hK.out _ _ ⟨(blk_cell BK260.out 0).trans rfl, (blk_cell BK260.out 1).trans rfl⟩ (fun hHeld => ?_)
  clear hK K
  refine norm_ (a' := ?_) ?_ ?_
  rotate_left
  ·
   show Act.put _ (some 20) _ = _
   simp only [Act.put, List.setIfInBounds_toArray, List.set_cons_zero, List.set_cons_succ, i64_w, i32_w]
   rfl
  refine one_ (i := 5) (N := some 23) #[true, true, true, true, true, true, false, false] rfl rfl (one_of HT_.out (by kernel_rfl)) (by decide) (fun K hK => ?_)
  refine goes_ Try.func64 (by kernel_rfl) rfl #[.agg #[.slice A0_0 l0_0.length c0_0, .slice A0_1 l0_1.length c0_1], .int .i64 a1] (by rfl) rfl rfl zqE ?_
  with_reducible refine (pump_Plant_row.calls _ _ l0_0 _ _ l0_1 a1 t265 _ ?side1 ?side2 ?side3 ?side4 A6.out).mono ?_
  (case side1 => exact zqK (Kd.C_below HR0_0.out HB.out))
  (case side2 => exact HC0_0.out)
  (case side3 => exact zqK (Kd.C_below HR0_1.out HB.out))
  (case side4 => exact HC0_1.out)
  rintro e w12 ⟨v266, rfl, ho0, hb⟩
  refine ⟨_, rfl, ?_⟩
  have n0_ := zA (Kd.R_elder' (zqC HO264.out) (Kd.R_base ho0) hb); have n1_ := zA (Kd.R_lower (Kd.R_new' ho0 (Kd.R_lt (zqC HO264.out))) (below_size (zqG HB.out GE260.out))); have n2_ := zA (blk_below (g := gb260) (zqB BK260.out) hb); have n3_ := zA (below_step (zqG HB.out GE260.out) hb); clear HO264 BK260 HB; have HO264 := n0_; have HO267 := n1_; have BK260 := n2_; have HB := n3_; clear n0_ n1_ n2_ n3_
  (try clear hb)
  (try clear hb2)
  (try clear hk)
  (try clear hi)
  (try clear ho0)
  refine hK.out _ _ ⟨(blk_cell BK260.out 0).trans rfl, (blk_cell BK260.out 1).trans rfl⟩ (fun hHeld => ?_)
  clear hK K
  refine norm_ (a' := ?_) ?_ ?_
  rotate_left
  ·
   show Act.put _ (some 23) _ = _
   simp only [Act.put, List.setIfInBounds_toArray, List.set_cons_zero, List.set_cons_succ, i64_w, i32_w]
   rfl
  refine pure_ (i := 6) (N := some 8) (v := ?_) (a' := ?_) #[true, true, true, true, true, true, true, false] rfl rfl (any_of HT_.out (by kernel_rfl)) (fun _ _ _ h => h) (Or.inl ⟨by rfl, ?_⟩) ?_ ?_
  rotate_left
  ·
   intro w'
   go_simp
   with_reducible rfl
  rotate_left
  ·
   simp only [Act.put, List.setIfInBounds_toArray, List.set_cons_zero, List.set_cons_succ, i64_w, i32_w]
   rfl
  refine pure_ (i := 7) (N := some 9) (v := ?_) (a' := ?_) #[true, true, true, true, true, true, true, true] rfl rfl (any_of HT_.out (by kernel_rfl)) (fun _ _ _ h => h) (Or.inl ⟨by rfl, ?_⟩) ?_ ?_
  rotate_left
  ·
   intro w'
   go_simp
   with_reducible rfl
  rotate_left
  ·
   simp only [Act.put, List.setIfInBounds_toArray, List.set_cons_zero, List.set_cons_succ, i64_w, i32_w]
   rfl
  refine done_ (done_of HT_.out (by kernel_rfl)) ?_
  obtain ⟨Ao13, co13, eo13⟩ := Kd.R_slice HO264.out
  subst eo13
  try go_wp2
  go_loopg [4, 5, 26] k (fun kq v4 v5 v26 w' => ∃ (x4_1 : Int) (x5_1 : Int) (x26_1 : Int), v4 = .int .i64 x4_1 ∧ v5 = .int .i64 x5_1 ∧ v26 = .int .i64 x26_1 ∧ Aside0 (pump_Drop.l0 kq x4_1 x5_1 t262 t265 (t262.length : Int) x26_1 = some (r1, r2, r3)) ∧ Aside0 (kq ≤ k) ∧ Aside0 (Kd.R (Kd.int .i64) 3 w' w.heap.size (fun k_ => some k_ ≠ (v266 : Value).ownBlock) (.slice Ao13 t262.length co13) t262) ∧ Aside0 (Kd.R (Kd.int .i64) 3 w' w.heap.size (fun k_ => some k_ ≠ ((.slice Ao13 t262.length co13) : Value).ownBlock) v266 t265) ∧ Aside0 (w'.heap[gb260]? = some (.cells #[(.slice A0_0 l0_0.length c0_0), (.slice A0_1 l0_1.length c0_1)] 40 (0, 0))) ∧ Aside0 (Below w.heap.size w w'))
  case atStart => exact ⟨(0), (0), (0), zqQ, zqQ, zqQ, H', ⟨Nat.le_refl _⟩, ⟨by (with_reducible repeat (first | apply Kd.R_alloc | apply Kd.R_drewN | apply Kd.R_drew)); exact Kd.R_mono HO264.out (fun _ hk => hk.2)⟩, ⟨by (with_reducible repeat (first | apply Kd.R_alloc | apply Kd.R_drewN | apply Kd.R_drew)); exact Kd.R_mono HO267.out (fun _ hk => hk.2)⟩, ⟨zqB BK260.out⟩, ⟨zqG HB.out GE260.out⟩⟩
  case round =>
   clear H'
   try clear p2
   try clear c3
   try clear c4
   try clear c4b0
   try clear c4b1
   try clear c6
   try clear hcz8_0
   try clear hcz8_1
   try clear hfz8_0
   try clear hfz8_1
   obtain ⟨x4_1, x5_1, x26_1, rfl, rfl, rfl, HA, HK1, HO_8, HO_9, BK260, HB⟩ := hrel
   cases gk with
   | zero => exact absurd HA.out (by simp [pump_Drop.l0])
   | succ k1 =>
    have H := HA.out
    clear HA
    simp only [pump_Drop.l0] at H
    by_cases c14 : x26_1 < (t262.length : Int)
    ·
     rw [if_pos c14] at H
     have c14b0 : decide (x26_1 < (t262.length : Int)) = true := decide_eq_true c14
     clear c14
     by_cases c15 : 0 ≤ x26_1
     ·
      rw [if_pos c15] at H
      have c15b0 : decide (0 ≤ x26_1) = true := decide_eq_true c15
      clear c15
      by_cases c16 : x26_1 < (t262.length : Int)
      ·
       rw [if_pos c16] at H
       have c16b0 : decide (x26_1 < (t262.length : Int)) = true := decide_eq_true c16
       clear c16
       by_cases c17 : x26_1 < (t265.length : Int)
       ·
        rw [if_pos c17] at H
        have c17b0 : decide (x26_1 < (t265.length : Int)) = true := decide_eq_true c17
        clear c17
        by_cases c18 : (wrap64 ((rd t262 x26_1) - (rd t265 x26_1))) > x4_1
        ·
         rw [if_pos c18] at H
         have c18b0 : decide (x4_1 < (wrap64 ((rd t262 x26_1) - (rd t265 x26_1)))) = true := decide_eq_true c18
         clear c18
         have H' := zA H
         clear H
         try go_wp2
         have n0_ := zA (Kd.R_drew HO_8.out); have n1_ := zA (Kd.R_drew HO_9.out); have n2_ := zA (blk_drew BK260.out); have n3_ := zA (below_drew1 HB.out); clear HO_8 HO_9 BK260 HB; have HO_8 := n0_; have HO_9 := n1_; have BK260 := n2_; have HB := n3_; clear n0_ n1_ n2_ n3_
         have p268 : 0 ≤ (x26_1 : Int) := of_decide_eq_true (zqD)
         have q268 : x26_1 < (t262.length : Int) := of_decide_eq_true (zqD)
         obtain ⟨ad268, e268, hx268_0⟩ := Kd.at_int (Kd.R_reads' HO_8.out).2.2 x26_1 p268 q268
         cases e268; replace p268 := eq_true p268; replace q268 := eq_true q268
         obtain ⟨Ao20, co20, eo20⟩ := Kd.R_slice HO_9.out
         (first | subst eo20 | (injection eo20 with f1_ f2_ f3_; have f4_ := f1_.symm; have f5_ := f3_.symm; clear f1_ f2_ f3_; subst f4_; subst f5_))
         have p269 : 0 ≤ (x26_1 : Int) := of_decide_eq_true (zqD)
         have q269 : x26_1 < (t265.length : Int) := of_decide_eq_true (zqD)
         obtain ⟨ad269, e269, hx269_0⟩ := Kd.at_int (Kd.R_reads' HO_9.out).2.2 x26_1 p269 q269
         cases e269; replace p269 := eq_true p269; replace q269 := eq_true q269
         refine start_ (n := 10) (S := fun w' => w'.cell? (ad268.add (x26_1).toNat) = some (.int .i64 (rd t262 x26_1)) ∧ w'.cell? (ad269.add (x26_1).toNat) = some (.int .i64 (rd t265 x26_1))) (ds := []) #[false, false, false, false, false, false, false, false, false, false] (by kernel_rfl) rfl rfl ⟨hx268_0, hx269_0⟩ (fun hHeld => ?_); refine with_tabW pump_Drop.tab8 pump_Drop.bits8 (fun HT_ HW_ => ?_)
         generalize wr.drew = w19 at HO_8 HO_9 BK260 HB hx268_0 hx269_0 hHeld ⊢
         refine pure_ (i := 0) (N := some 29) (v := ?_) (a' := ?_) #[true, false, false, false, false, false, false, false, false, false] rfl rfl (any_of HT_.out (by kernel_rfl)) (fun _ _ _ h => h) (Or.inl ⟨by rfl, ?_⟩) ?_ ?_
         rotate_left
         ·
          intro w'
          go_simp
          with_reducible rfl
         rotate_left
         ·
          simp only [Act.put, List.setIfInBounds_toArray, List.set_cons_zero, List.set_cons_succ, i64_w, i32_w]
          rfl
         refine pure_ (i := 1) (N := some 30) (v := ?_) (a' := ?_) #[true, true, false, false, false, false, false, false, false, false] rfl rfl (any_of HT_.out (by kernel_rfl)) (fun _ _ _ h => h) (Or.inl ⟨by rfl, ?_⟩) ?_ ?_
         rotate_left
         ·
          intro w'
          go_simp
          with_reducible rfl
         rotate_left
         ·
          simp only [Act.put, List.setIfInBounds_toArray, List.set_cons_zero, List.set_cons_succ, i64_w, i32_w]
          rfl
         refine pure_ (i := 2) (N := some 31) (v := ?_) (a' := ?_) #[true, true, true, false, false, false, false, false, false, false] rfl rfl (any_of HT_.out (by kernel_rfl)) (fun _ _ _ h => h) (Or.inl ⟨by rfl, ?_⟩) ?_ ?_
         rotate_left
         ·
          intro w'
          go_simp
          with_reducible rfl
         rotate_left
         ·
          simp only [Act.put, List.setIfInBounds_toArray, List.set_cons_zero, List.set_cons_succ, i64_w, i32_w]
          rfl
         refine pure_ (i := 4) (N := some 33) (v := ?_) (a' := ?_) #[true, true, true, false, true, false, false, false, false, false] rfl rfl (any_of HT_.out (by kernel_rfl)) (fun _ _ _ h => h) (Or.inl ⟨by rfl, ?_⟩) ?_ ?_
         rotate_left
         ·
          intro w'
          go_simp
          with_reducible rfl
         rotate_left
         ·
          simp only [Act.put, List.setIfInBounds_toArray, List.set_cons_zero, List.set_cons_succ, i64_w, i32_w]
          rfl
         refine pure_ (i := 5) (N := some 34) (v := ?_) (a' := ?_) #[true, true, true, false, true, true, false, false, false, false] rfl rfl (any_of HT_.out (by kernel_rfl)) (fun _ _ _ h => h) (Or.inl ⟨by rfl, ?_⟩) ?_ ?_
         rotate_left
         ·
          intro w'
          go_simp
          with_reducible rfl
         rotate_left
         ·
          simp only [Act.put, List.setIfInBounds_toArray, List.set_cons_zero, List.set_cons_succ, i64_w, i32_w]
          rfl
         refine pure_ (i := 6) (N := some 35) (v := ?_) (a' := ?_) #[true, true, true, false, true, true, true, false, false, false] rfl rfl (any_of HT_.out (by kernel_rfl)) (fun _ _ _ h => h) (Or.inl ⟨by rfl, ?_⟩) ?_ ?_
         rotate_left
         ·
          intro w'
          go_simp
          with_reducible rfl
         rotate_left
         ·
          simp only [Act.put, List.setIfInBounds_toArray, List.set_cons_zero, List.set_cons_succ, i64_w, i32_w]
          rfl
         refine take_ (i := 3) (N := some 32) (v := ?_) (a' := ?_) #[true, true, true, true, true, true, true, false, false, false] rfl rfl (take_ofW HT_.out HW_.out (by kernel_rfl)) (fun _ _ _ h => h) (Or.inl ⟨by rfl, ?_⟩) hHeld ?_ ?_
         rotate_left
         ·
          rintro w' ⟨s0, s1⟩
          go_simp
          with_reducible rfl
         rotate_left
         ·
          simp only [Act.put, List.setIfInBounds_toArray, List.set_cons_zero, List.set_cons_succ, i64_w, i32_w]
          rfl
         refine take_ (i := 7) (N := some 36) (v := ?_) (a' := ?_) #[true, true, true, true, true, true, true, true, false, false] rfl rfl (take_ofW HT_.out HW_.out (by kernel_rfl)) (fun _ _ _ h => h) (Or.inl ⟨by rfl, ?_⟩) hHeld ?_ ?_
         rotate_left
         ·
          rintro w' ⟨s0, s1⟩
          go_simp
          with_reducible rfl
         rotate_left
         ·
          simp only [Act.put, List.setIfInBounds_toArray, List.set_cons_zero, List.set_cons_succ, i64_w, i32_w]
          rfl
         refine pure_ (i := 8) (N := some 37) (v := ?_) (a' := ?_) #[true, true, true, true, true, true, true, true, true, false] rfl rfl (any_of HT_.out (by kernel_rfl)) (fun _ _ _ h => h) (Or.inl ⟨by rfl, ?_⟩) ?_ ?_
         rotate_left
         ·
          intro w'
          go_simp
          with_reducible rfl
         rotate_left
         ·
          simp only [Act.put, List.setIfInBounds_toArray, List.set_cons_zero, List.set_cons_succ, i64_w, i32_w]
          rfl
         refine pure_ (i := 9) (N := some 11) (v := ?_) (a' := ?_) #[true, true, true, true, true, true, true, true, true, true] rfl rfl (any_of HT_.out (by kernel_rfl)) (fun _ _ _ h => h) (Or.inl ⟨by rfl, ?_⟩) ?_ ?_
         rotate_left
         ·
          intro w'
          go_simp
          with_reducible rfl
         rotate_left
         ·
          simp only [Act.put, List.setIfInBounds_toArray, List.set_cons_zero, List.set_cons_succ, i64_w, i32_w]
          rfl
         refine done_ (done_of HT_.out (by kernel_rfl)) ?_
         try go_wp2
         go_roundg k1
         case measure => have := HK1.out; omega
         case rel => exact ⟨(wrap64 ((rd t262 x26_1) - (rd t265 x26_1))), (x26_1), (wrap64 (x26_1 + 1)), zqQ, zqQ, zqQ, H', ⟨by have := HK1.out; omega⟩, ⟨zqC HO_8.out⟩, ⟨zqC HO_9.out⟩, ⟨zqB BK260.out⟩, ⟨zqG HB.out GE260.out⟩⟩
        ·
         rw [if_neg c18] at H
         have c18b0 : decide (x4_1 < (wrap64 ((rd t262 x26_1) - (rd t265 x26_1)))) = false := decide_eq_false c18
         clear c18
         have H' := zA H
         clear H
         try go_wp2
         have n0_ := zA (Kd.R_drew HO_8.out); have n1_ := zA (Kd.R_drew HO_9.out); have n2_ := zA (blk_drew BK260.out); have n3_ := zA (below_drew1 HB.out); clear HO_8 HO_9 BK260 HB; have HO_8 := n0_; have HO_9 := n1_; have BK260 := n2_; have HB := n3_; clear n0_ n1_ n2_ n3_
         have p268 : 0 ≤ (x26_1 : Int) := of_decide_eq_true (zqD)
         have q268 : x26_1 < (t262.length : Int) := of_decide_eq_true (zqD)
         obtain ⟨ad268, e268, hx268_0⟩ := Kd.at_int (Kd.R_reads' HO_8.out).2.2 x26_1 p268 q268
         cases e268; replace p268 := eq_true p268; replace q268 := eq_true q268
         obtain ⟨Ao22, co22, eo22⟩ := Kd.R_slice HO_9.out
         (first | subst eo22 | (injection eo22 with f1_ f2_ f3_; have f4_ := f1_.symm; have f5_ := f3_.symm; clear f1_ f2_ f3_; subst f4_; subst f5_))
         have p269 : 0 ≤ (x26_1 : Int) := of_decide_eq_true (zqD)
         have q269 : x26_1 < (t265.length : Int) := of_decide_eq_true (zqD)
         obtain ⟨ad269, e269, hx269_0⟩ := Kd.at_int (Kd.R_reads' HO_9.out).2.2 x26_1 p269 q269
         cases e269; replace p269 := eq_true p269; replace q269 := eq_true q269
         refine start_ (n := 10) (S := fun w' => w'.cell? (ad268.add (x26_1).toNat) = some (.int .i64 (rd t262 x26_1)) ∧ w'.cell? (ad269.add (x26_1).toNat) = some (.int .i64 (rd t265 x26_1))) (ds := []) #[false, false, false, false, false, false, false, false, false, false] (by kernel_rfl) rfl rfl ⟨hx268_0, hx269_0⟩ (fun hHeld => ?_); refine with_tabW pump_Drop.tab8 pump_Drop.bits8 (fun HT_ HW_ => ?_)
         generalize wr.drew = w21 at HO_8 HO_9 BK260 HB hx268_0 hx269_0 hHeld ⊢
         refine pure_ (i := 0) (N := some 29) (v := ?_) (a' := ?_) #[true, false, false, false, false, false, false, false, false, false] rfl rfl (any_of HT_.out (by kernel_rfl)) (fun _ _ _ h => h) (Or.inl ⟨by rfl, ?_⟩) ?_ ?_
         rotate_left
         ·
          intro w'
          go_simp
          with_reducible rfl
         rotate_left
         ·
          simp only [Act.put, List.setIfInBounds_toArray, List.set_cons_zero, List.set_cons_succ, i64_w, i32_w]
          rfl
         refine pure_ (i := 1) (N := some 30) (v := ?_) (a' := ?_) #[true, true, false, false, false, false, false, false, false, false] rfl rfl (any_of HT_.out (by kernel_rfl)) (fun _ _ _ h => h) (Or.inl ⟨by rfl, ?_⟩) ?_ ?_
         rotate_left
         ·
          intro w'
          go_simp
          with_reducible rfl
         rotate_left
         ·
          simp only [Act.put, List.setIfInBounds_toArray, List.set_cons_zero, List.set_cons_succ, i64_w, i32_w]
          rfl
         refine pure_ (i := 2) (N := some 31) (v := ?_) (a' := ?_) #[true, true, true, false, false, false, false, false, false, false] rfl rfl (any_of HT_.out (by kernel_rfl)) (fun _ _ _ h => h) (Or.inl ⟨by rfl, ?_⟩) ?_ ?_
         rotate_left
         ·
          intro w'
          go_simp
          with_reducible rfl
         rotate_left
         ·
          simp only [Act.put, List.setIfInBounds_toArray, List.set_cons_zero, List.set_cons_succ, i64_w, i32_w]
          rfl
         refine pure_ (i := 4) (N := some 33) (v := ?_) (a' := ?_) #[true, true, true, false, true, false, false, false, false, false] rfl rfl (any_of HT_.out (by kernel_rfl)) (fun _ _ _ h => h) (Or.inl ⟨by rfl, ?_⟩) ?_ ?_
         rotate_left
         ·
          intro w'
          go_simp
          with_reducible rfl
         rotate_left
         ·
          simp only [Act.put, List.setIfInBounds_toArray, List.set_cons_zero, List.set_cons_succ, i64_w, i32_w]
          rfl
         refine pure_ (i := 5) (N := some 34) (v := ?_) (a' := ?_) #[true, true, true, false, true, true, false, false, false, false] rfl rfl (any_of HT_.out (by kernel_rfl)) (fun _ _ _ h => h) (Or.inl ⟨by rfl, ?_⟩) ?_ ?_
         rotate_left
         ·
          intro w'
          go_simp
          with_reducible rfl
         rotate_left
         ·
          simp only [Act.put, List.setIfInBounds_toArray, List.set_cons_zero, List.set_cons_succ, i64_w, i32_w]
          rfl
         refine pure_ (i := 6) (N := some 35) (v := ?_) (a' := ?_) #[true, true, true, false, true, true, true, false, false, false] rfl rfl (any_of HT_.out (by kernel_rfl)) (fun _ _ _ h => h) (Or.inl ⟨by rfl, ?_⟩) ?_ ?_
         rotate_left
         ·
          intro w'
          go_simp
          with_reducible rfl
         rotate_left
         ·
          simp only [Act.put, List.setIfInBounds_toArray, List.set_cons_zero, List.set_cons_succ, i64_w, i32_w]
          rfl
         refine take_ (i := 3) (N := some 32) (v := ?_) (a' := ?_) #[true, true, true, true, true, true, true, false, false, false] rfl rfl (take_ofW HT_.out HW_.out (by kernel_rfl)) (fun _ _ _ h => h) (Or.inl ⟨by rfl, ?_⟩) hHeld ?_ ?_
         rotate_left
         ·
          rintro w' ⟨s0, s1⟩
          go_simp
          with_reducible rfl
         rotate_left
         ·
          simp only [Act.put, List.setIfInBounds_toArray, List.set_cons_zero, List.set_cons_succ, i64_w, i32_w]
          rfl
         refine take_ (i := 7) (N := some 36) (v := ?_) (a' := ?_) #[true, true, true, true, true, true, true, true, false, false] rfl rfl (take_ofW HT_.out HW_.out (by kernel_rfl)) (fun _ _ _ h => h) (Or.inl ⟨by rfl, ?_⟩) hHeld ?_ ?_
         rotate_left
         ·
          rintro w' ⟨s0, s1⟩
          go_simp
          with_reducible rfl
         rotate_left
         ·
          simp only [Act.put, List.setIfInBounds_toArray, List.set_cons_zero, List.set_cons_succ, i64_w, i32_w]
          rfl
         refine pure_ (i := 8) (N := some 37) (v := ?_) (a' := ?_) #[true, true, true, true, true, true, true, true, true, false] rfl rfl (any_of HT_.out (by kernel_rfl)) (fun _ _ _ h => h) (Or.inl ⟨by rfl, ?_⟩) ?_ ?_
         rotate_left
         ·
          intro w'
          go_simp
          with_reducible rfl
         rotate_left
         ·
          simp only [Act.put, List.setIfInBounds_toArray, List.set_cons_zero, List.set_cons_succ, i64_w, i32_w]
          rfl
         refine pure_ (i := 9) (N := some 11) (v := ?_) (a' := ?_) #[true, true, true, true, true, true, true, true, true, true] rfl rfl (any_of HT_.out (by kernel_rfl)) (fun _ _ _ h => h) (Or.inl ⟨by rfl, ?_⟩) ?_ ?_
         rotate_left
         ·
          intro w'
          go_simp
          with_reducible rfl
         rotate_left
         ·
          simp only [Act.put, List.setIfInBounds_toArray, List.set_cons_zero, List.set_cons_succ, i64_w, i32_w]
          rfl
         refine done_ (done_of HT_.out (by kernel_rfl)) ?_
         try go_wp2
         go_roundg k1
         case measure => have := HK1.out; omega
         case rel => exact ⟨(x4_1), (x5_1), (wrap64 (x26_1 + 1)), zqQ, zqQ, zqQ, H', ⟨by have := HK1.out; omega⟩, ⟨zqC HO_8.out⟩, ⟨zqC HO_9.out⟩, ⟨zqB BK260.out⟩, ⟨zqG HB.out GE260.out⟩⟩
       ·
        rw [if_neg c17] at H
        exact absurd H (by simp)
      ·
       rw [if_neg c16] at H
       exact absurd H (by simp)
     ·
      rw [if_neg c15] at H
      exact absurd H (by simp)
    ·
     rw [if_neg c14] at H
     have c14b0 : decide (x26_1 < (t262.length : Int)) = false := decide_eq_false c14
     clear c14
     simp only [Option.some.injEq, Prod.mk.injEq] at H
     obtain ⟨rfl, rfl, rfl⟩ := H
     go_wp2
     go_ret3
     exact ⟨zqR, zqG HB.out GE260.out⟩
 ·
  rw [if_neg c4] at H
  have c4b0 : (t261 == 0) = false := beq_eq_false_iff_ne.mpr c4
  have c4b1 : (t261 != 0) = true := bne_iff_ne.mpr c4
  simp only [Option.some.injEq, Prod.mk.injEq] at H
  obtain ⟨rfl, rfl, rfl⟩ := H
  go_enter Try.func30, Try.ntmps30
  go_wp2_with (first | ((with_reducible refine gate_dst (N := 2) rfl ?_); refine box_event ?hg (N := 2) ?hd (cs := #[.slice A0_0 l0_0.length c0_0, .slice A0_1 l0_1.length c0_1]) (t := 40) ?hr ?_; (case hd => rfl); (case hg => rfl); (case hr => first | (go_simp; done) | (go_simp; rfl)); intro gb260 hg w23 hbox hb; have n0_ := zA (below_step (zqA HB.out) hb); have n1_ := zA (hbox); have n2_ := zA ((by rw [hg]; exact (below_size (zqA HB.out)) : w.heap.size ≤ gb260)); have n3_ := zA ((by rw [hg]; exact (below_size (zqA HB.out)) : w.heap.size ≤ gb260)); clear HB; have HB := n0_; have BK260 := n1_; have GW260 := n2_; have GE260 := n3_; clear n0_ n1_ n2_ n3_; clear hb hbox hg; have hcz24_0 : w23.cell? ⟨gb260, 0, none⟩ = some (.slice A0_0 l0_0.length c0_0) := (blk_cell BK260.out 0).trans rfl; have hcz24_1 : w23.cell? ⟨gb260, 1, none⟩ = some (.slice A0_1 l0_1.length c0_1) := (blk_cell BK260.out 1).trans rfl; have hfz24_0 := blk_frozen BK260.out 0; have hfz24_1 := blk_frozen BK260.out 1) | ((with_reducible refine gate_callee (f := 63) rfl ?_); refine goesL_ (some 14) rfl rfl Try.func63 (by kernel_rfl) rfl #[.agg #[.slice A0_0 l0_0.length c0_0, .slice A0_1 l0_1.length c0_1], .int .i64 a1] rfl zqE ?_; (with_reducible refine (pump_planned.calls _ _ l0_0 _ _ l0_1 a1 t261 _ ?side1 ?side2 ?side3 ?side4 A3.out).mono ?_); (case side1 => exact zqK (Kd.C_below HR0_0.out HB.out)); (case side2 => exact HC0_0.out); (case side3 => exact zqK (Kd.C_below HR0_1.out HB.out)); (case side4 => exact HC0_1.out); rintro e w25 ⟨rfl, hb⟩; refine ⟨_, rfl, ?_⟩; have n0_ := zA (blk_below (g := gb260) (o := .cells #[.slice A0_0 l0_0.length c0_0, .slice A0_1 l0_1.length c0_1] 40 (0, 0)) (zqB BK260.out) hb); have n1_ := zA (below_step (zqG HB.out GE260.out) hb); clear BK260; clear HB; have BK260 := n0_; have HB := n1_; clear n0_ n1_; (try clear hb); (try clear hb2); (try clear hk); (try clear hi)))
  go_ret3
  exact ⟨zqR, zqG HB.out GE260.out⟩
end Go.Proofs.Ythoeindopljmkaa.P
end
section
namespace Go.Proofs.Ythoeindopljmkaa.P
open Go.RowKit Go.Proofs.YthoeindopljmkaaW.PrintWords Go.Proofs.YthoeindopljmkaaW.PrintLast Go.Proofs.YthoeindopljmkaaW.PrintMore
attribute [local go_sem] max2_int min2_int max_two min_two max_three min_three max_four min_four
set_option linter.unusedVariables false
set_option linter.unusedSimpArgs false
mutual
def pump_Delay.l0 : Nat → List Int → Int → List Int → Int → Int → Option (Int × Int)
  | 0, _, _, _, _, _ => none
  | k + 1, x7, x8, x23, x24, x25 => if x25 < x24 then (if 0 ≤ x25 then (if x25 < (x23.length : Int) then (pump_Delay.l1 k x7 x8 x25 (rd x23 x25) x23 x24 x25) else (none)) else (none)) else (some (x8, 0))
def pump_Delay.l1 : Nat → List Int → Int → Int → Int → List Int → Int → Int → Option (Int × Int)
  | 0, _, _, _, _, _, _, _ => none
  | k + 1, x7, x8, x9, x10, x23, x24, x25 => if 0 ≤ (wrap64 (x9 + x8)) then (if (wrap64 (x9 + x8)) < (x7.length : Int) then (if (rd x7 (wrap64 (x9 + x8))) < x10 then (if (wrap64 (x8 + 1)) > 200 then (some (0, 11)) else (pump_Delay.l1 k x7 (wrap64 (x8 + 1)) x9 x10 x23 x24 x25)) else (pump_Delay.l0 k x7 x8 x23 x24 (wrap64 (x25 + 1)))) else (none)) else (none)
end
def pump_Delay.f (k : Nat) (l0_0 : List (List (S71))) (l0_1 : List (List (S71))) (a1 : Int) : Option (Int × Int) := (pump_planned.f l0_0 l0_1 a1).bind fun t294 => (if t294 = 0 then ((pump_Plant_row.f l0_0 l0_1 (wrap64 (a1 + 200))).bind fun t295 => ((pump_Plant_demands.f k l0_0 l0_1 a1).bind fun t298 => (pump_Delay.l0 k t295 0 t298 (t298.length : Int) 0))) else (some (0, t294)))
set_option maxHeartbeats 8000000 in
set_option maxRecDepth 100000 in
theorem pump_Delay.calls (k : Nat) (A0_0 : Option Addr) (c0_0 : Nat) (l0_0 : List (List (S71))) (A0_1 : Option Addr) (c0_1 : Nat) (l0_1 : List (List (S71))) (a1 : Int) (r1 : Int) (r2 : Int) (w : World) (hr0_0 : Kd.C (Kd.slice 71 k71) w A0_0 l0_0.length l0_0) (hc0_0 : l0_0.length ≤ c0_0) (hr0_1 : Kd.C (Kd.slice 71 k71) w A0_1 l0_1.length l0_1) (hc0_1 : l0_1.length ≤ c0_1) (h : pump_Delay.f k l0_0 l0_1 a1 = some (r1, r2)) :
  Calls Try.prog 32 #[.agg #[.slice A0_0 l0_0.length c0_0, .slice A0_1 l0_1.length c0_1], .int .i64 a1] w fun e w' => e = .returned (.tuple #[.int .i64 r1, .int .i64 r2]) ∧ Below w.heap.size w w' := by
 have hu40 := Try.underlying40
 have HR0_0 := zA hr0_0
 have HC0_0 := zA hc0_0
 clear hr0_0 hc0_0
 have HR0_1 := zA hr0_1
 have HC0_1 := zA hc0_1
 clear hr0_1 hc0_1
 have HB := zA (Below.refl w.heap.size w)
 have H : ((pump_planned.f l0_0 l0_1 a1).bind fun t294 => (if t294 = 0 then ((pump_Plant_row.f l0_0 l0_1 (wrap64 (a1 + 200))).bind fun t295 => ((pump_Plant_demands.f k l0_0 l0_1 a1).bind fun t298 => (pump_Delay.l0 k t295 0 t298 (t298.length : Int) 0))) else (some (0, t294)))) = some (r1, r2) := h
 clear h
 replace H := Option.bind_eq_some_iff.mp H
 obtain ⟨t294, A30, H⟩ := H
 replace H : (if t294 = 0 then ((pump_Plant_row.f l0_0 l0_1 (wrap64 (a1 + 200))).bind fun t295 => ((pump_Plant_demands.f k l0_0 l0_1 a1).bind fun t298 => (pump_Delay.l0 k t295 0 t298 (t298.length : Int) 0))) else (some (0, t294))) = some (r1, r2) := H
 have A3 := zA A30
 clear A30
 by_cases c4 : t294 = 0
 ·
  rw [if_pos c4] at H
  have c4b0 : (t294 == 0) = true := beq_iff_eq.mpr c4
  have c4b1 : (t294 != 0) = false := bne_eq_false_iff_eq.mpr c4
  clear c4
  replace H := Option.bind_eq_some_iff.mp H
  obtain ⟨t295, A50, H⟩ := H
  replace H : ((pump_Plant_demands.f k l0_0 l0_1 a1).bind fun t298 => (pump_Delay.l0 k t295 0 t298 (t298.length : Int) 0)) = some (r1, r2) := H
  have A5 := zA A50
  clear A50
  replace H := Option.bind_eq_some_iff.mp H
  obtain ⟨t298, A60, H⟩ := H
  replace H : (pump_Delay.l0 k t295 0 t298 (t298.length : Int) 0) = some (r1, r2) := H
  have A6 := zA A60
  clear A60
  have H' := zA H
  clear H
  go_enter Try.func32, Try.ntmps32
  go_wp2_with (first | ((with_reducible refine gate_dst (N := 2) rfl ?_); refine box_event ?hg (N := 2) ?hd (cs := #[.slice A0_0 l0_0.length c0_0, .slice A0_1 l0_1.length c0_1]) (t := 40) ?hr ?_; (case hd => rfl); (case hg => rfl); (case hr => first | (go_simp; done) | (go_simp; rfl)); intro gb293 hg w7 hbox hb; have n0_ := zA (below_step (zqA HB.out) hb); have n1_ := zA (hbox); have n2_ := zA ((by rw [hg]; exact (below_size (zqA HB.out)) : w.heap.size ≤ gb293)); have n3_ := zA ((by rw [hg]; exact (below_size (zqA HB.out)) : w.heap.size ≤ gb293)); clear HB; have HB := n0_; have BK293 := n1_; have GW293 := n2_; have GE293 := n3_; clear n0_ n1_ n2_ n3_; clear hb hbox hg; have hcz8_0 : w7.cell? ⟨gb293, 0, none⟩ = some (.slice A0_0 l0_0.length c0_0) := (blk_cell BK293.out 0).trans rfl; have hcz8_1 : w7.cell? ⟨gb293, 1, none⟩ = some (.slice A0_1 l0_1.length c0_1) := (blk_cell BK293.out 1).trans rfl; have hfz8_0 := blk_frozen BK293.out 0; have hfz8_1 := blk_frozen BK293.out 1) | ((with_reducible refine gate_callee (f := 63) rfl ?_); refine goesL_ (some 13) rfl rfl Try.func63 (by kernel_rfl) rfl #[.agg #[.slice A0_0 l0_0.length c0_0, .slice A0_1 l0_1.length c0_1], .int .i64 a1] rfl zqE ?_; (with_reducible refine (pump_planned.calls _ _ l0_0 _ _ l0_1 a1 t294 _ ?side1 ?side2 ?side3 ?side4 A3.out).mono ?_); (case side1 => exact zqK (Kd.C_below HR0_0.out HB.out)); (case side2 => exact HC0_0.out); (case side3 => exact zqK (Kd.C_below HR0_1.out HB.out)); (case side4 => exact HC0_1.out); rintro e w9 ⟨rfl, hb⟩; refine ⟨_, rfl, ?_⟩; have n0_ := zA (blk_below (g := gb293) (o := .cells #[.slice A0_0 l0_0.length c0_0, .slice A0_1 l0_1.length c0_1] 40 (0, 0)) (zqB BK293.out) hb); have n1_ := zA (below_step (zqG HB.out GE293.out) hb); clear BK293; clear HB; have BK293 := n0_; have HB := n1_; clear n0_ n1_; (try clear hb); (try clear hb2); (try clear hk); (try clear hi); have hcz10_0 : w9.cell? ⟨gb293, 0, none⟩ = some (.slice A0_0 l0_0.length c0_0) := (blk_cell BK293.out 0).trans rfl; have hcz10_1 : w9.cell? ⟨gb293, 1, none⟩ = some (.slice A0_1 l0_1.length c0_1) := (blk_cell BK293.out 1).trans rfl; have hfz10_0 := blk_frozen BK293.out 0; have hfz10_1 := blk_frozen BK293.out 1) | ((with_reducible refine gate_callee (f := 64) rfl ?_); refine goesL_ (some 20) rfl rfl Try.func64 (by kernel_rfl) rfl #[.agg #[.slice A0_0 l0_0.length c0_0, .slice A0_1 l0_1.length c0_1], .int .i64 (wrap64 (a1 + 200))] rfl zqE ?_; (with_reducible refine (pump_Plant_row.calls _ _ l0_0 _ _ l0_1 (wrap64 (a1 + 200)) t295 _ ?side1 ?side2 ?side3 ?side4 A5.out).mono ?_); (case side1 => exact zqK (Kd.C_below HR0_0.out HB.out)); (case side2 => exact HC0_0.out); (case side3 => exact zqK (Kd.C_below HR0_1.out HB.out)); (case side4 => exact HC0_1.out); rintro e w11 ⟨v296, rfl, ho0, hb⟩; refine ⟨_, rfl, ?_⟩; have n0_ := zA (Kd.R_lower ho0 (below_size (zqG HB.out GE293.out))); have n1_ := zA (blk_below (g := gb293) (o := .cells #[.slice A0_0 l0_0.length c0_0, .slice A0_1 l0_1.length c0_1] 40 (0, 0)) (zqB BK293.out) hb); have n2_ := zA (below_step (zqG HB.out GE293.out) hb); clear BK293; clear HB; have HO297 := n0_; have BK293 := n1_; have HB := n2_; clear n0_ n1_ n2_; (try clear hb); (try clear hb2); (try clear hk); (try clear hi); (try clear ho0); have hcz12_0 : w11.cell? ⟨gb293, 0, none⟩ = some (.slice A0_0 l0_0.length c0_0) := (blk_cell BK293.out 0).trans rfl; have hcz12_1 : w11.cell? ⟨gb293, 1, none⟩ = some (.slice A0_1 l0_1.length c0_1) := (blk_cell BK293.out 1).trans rfl; have hfz12_0 := blk_frozen BK293.out 0; have hfz12_1 := blk_frozen BK293.out 1) | ((with_reducible refine gate_callee (f := 67) rfl ?_); refine goesL_ (some 23) rfl rfl Try.func67 (by kernel_rfl) rfl #[.agg #[.slice A0_0 l0_0.length c0_0, .slice A0_1 l0_1.length c0_1], .int .i64 a1] rfl zqE ?_; (with_reducible refine (pump_Plant_demands.calls k _ _ l0_0 _ _ l0_1 a1 t298 _ ?side1 ?side2 ?side3 ?side4 A6.out).mono ?_); (case side1 => exact zqK (Kd.C_below HR0_0.out HB.out)); (case side2 => exact HC0_0.out); (case side3 => exact zqK (Kd.C_below HR0_1.out HB.out)); (case side4 => exact HC0_1.out); rintro e w13 ⟨v299, rfl, ho0, hb⟩; refine ⟨_, rfl, ?_⟩; have n0_ := zA (Kd.R_elder' (zqC HO297.out) (Kd.R_base ho0) hb); have n1_ := zA (Kd.R_lower (Kd.R_new' ho0 (Kd.R_lt (zqC HO297.out))) (below_size (zqG HB.out GE293.out))); have n2_ := zA (blk_below (g := gb293) (o := .cells #[.slice A0_0 l0_0.length c0_0, .slice A0_1 l0_1.length c0_1] 40 (0, 0)) (zqB BK293.out) hb); have n3_ := zA (below_step (zqG HB.out GE293.out) hb); clear HO297; clear BK293; clear HB; have HO297 := n0_; have HO300 := n1_; have BK293 := n2_; have HB := n3_; clear n0_ n1_ n2_ n3_; (try clear hb); (try clear hb2); (try clear hk); (try clear hi); (try clear ho0); obtain ⟨Ao14, co14, eo14⟩ := Kd.R_slice HO300.out; subst eo14))
  go_loopg [8, 25] k (fun kq v8 v25 w' => ∃ (x8_1 : Int) (x25_1 : Int), v8 = .int .i64 x8_1 ∧ v25 = .int .i64 x25_1 ∧ Aside0 (pump_Delay.l0 kq t295 x8_1 t298 (t298.length : Int) x25_1 = some (r1, r2)) ∧ Aside0 (kq ≤ k) ∧ Aside0 (Kd.R (Kd.int .i64) 3 w' w.heap.size (fun k_ => some k_ ≠ ((.slice Ao14 t298.length co14) : Value).ownBlock) v296 t295) ∧ Aside0 (Kd.R (Kd.int .i64) 3 w' w.heap.size (fun k_ => some k_ ≠ (v296 : Value).ownBlock) (.slice Ao14 t298.length co14) t298) ∧ Aside0 (w'.heap[gb293]? = some (.cells #[(.slice A0_0 l0_0.length c0_0), (.slice A0_1 l0_1.length c0_1)] 40 (0, 0))) ∧ Aside0 (Below w.heap.size w w'))
  case atStart => exact ⟨(0), (0), zqQ, zqQ, H', ⟨Nat.le_refl _⟩, ⟨by (with_reducible repeat (first | apply Kd.R_alloc | apply Kd.R_drewN | apply Kd.R_drew)); exact Kd.R_mono HO297.out (fun _ hk => hk.2)⟩, ⟨by (with_reducible repeat (first | apply Kd.R_alloc | apply Kd.R_drewN | apply Kd.R_drew)); exact Kd.R_mono HO300.out (fun _ hk => hk.2)⟩, ⟨zqB BK293.out⟩, ⟨zqG HB.out GE293.out⟩⟩
  case round =>
   clear H'
   try clear p2
   try clear c3
   try clear c4
   try clear c4b0
   try clear c4b1
   try clear c6
   try clear p6
   try clear hcz10_0
   try clear hcz10_1
   try clear hcz12_0
   try clear hcz12_1
   try clear hcz8_0
   try clear hcz8_1
   try clear hfz10_0
   try clear hfz10_1
   try clear hfz12_0
   try clear hfz12_1
   try clear hfz8_0
   try clear hfz8_1
   obtain ⟨x8_1, x25_1, rfl, rfl, HA, HK1, HO_7, HO_23, BK293, HB⟩ := hrel
   cases gk with
   | zero => exact absurd HA.out (by simp [pump_Delay.l0])
   | succ k1 =>
    have H := HA.out
    clear HA
    simp only [pump_Delay.l0] at H
    by_cases c15 : x25_1 < (t298.length : Int)
    ·
     rw [if_pos c15] at H
     have c15b0 : decide (x25_1 < (t298.length : Int)) = true := decide_eq_true c15
     clear c15
     by_cases c16 : 0 ≤ x25_1
     ·
      rw [if_pos c16] at H
      have c16b0 : decide (0 ≤ x25_1) = true := decide_eq_true c16
      clear c16
      by_cases c17 : x25_1 < (t298.length : Int)
      ·
       rw [if_pos c17] at H
       have c17b0 : decide (x25_1 < (t298.length : Int)) = true := decide_eq_true c17
       clear c17
       have H' := zA H
       clear H
       have p301 : 0 ≤ (x25_1 : Int) := of_decide_eq_true (zqD)
       have q301 : x25_1 < (t298.length : Int) := of_decide_eq_true (zqD)
       obtain ⟨ad301, e301, hx301_0⟩ := Kd.at_int (Kd.R_reads' HO_23.out).2.2 x25_1 p301 q301
       cases e301; replace p301 := eq_true p301; replace q301 := eq_true q301
       go_wp2
       go_loopg [8] k1 (fun kq v8 w' => ∃ (x8_2 : Int), v8 = .int .i64 x8_2 ∧ Aside0 (pump_Delay.l1 kq t295 x8_2 x25_1 (rd t298 x25_1) t298 (t298.length : Int) x25_1 = some (r1, r2)) ∧ Aside0 (kq ≤ k1) ∧ Aside0 (Kd.R (Kd.int .i64) 3 w' w.heap.size (fun k_ => some k_ ≠ ((.slice (some ad301) t298.length co14) : Value).ownBlock) v296 t295) ∧ Aside0 (Kd.R (Kd.int .i64) 3 w' w.heap.size (fun k_ => some k_ ≠ (v296 : Value).ownBlock) (.slice (some ad301) t298.length co14) t298) ∧ Aside0 (w'.heap[gb293]? = some (.cells #[(.slice A0_0 l0_0.length c0_0), (.slice A0_1 l0_1.length c0_1)] 40 (0, 0))) ∧ Aside0 (Below w.heap.size w w'))
       case atStart => exact ⟨(x8_1), zqQ, H', ⟨Nat.le_refl _⟩, ⟨zqC HO_7.out⟩, ⟨zqC HO_23.out⟩, ⟨zqB BK293.out⟩, ⟨zqG HB.out GE293.out⟩⟩
       case round =>
        clear H'
        try clear c1
        try clear p2
        try clear c3
        try clear p3
        try clear q3
        try clear hx3
        try clear c4
        try clear c4b0
        try clear c4b1
        try clear c6
        try clear p6
        try clear c15
        try clear c15b0
        try clear c16
        try clear c16b0
        try clear c17
        try clear c17b0
        try clear hcz10_0
        try clear hcz10_1
        try clear hcz12_0
        try clear hcz12_1
        try clear hcz8_0
        try clear hcz8_1
        try clear hfz10_0
        try clear hfz10_1
        try clear hfz12_0
        try clear hfz12_1
        try clear hfz8_0
        try clear hfz8_1
        try clear hx301_0
        try clear p2
        try clear p301
        try clear p6
        try clear q301
        obtain ⟨x8_2, rfl, HA, HK2, HO_7, HO_23, BK293, HB⟩ := hrel
        cases gk with
        | zero => exact absurd HA.out (by simp [pump_Delay.l1])
        | succ k2 =>
         have H := HA.out
         clear HA
         simp only [pump_Delay.l1] at H
         obtain ⟨ji18, hji18⟩ : ∃ j_ : Int, (wrap64 (x25_1 + x8_2)) = j_ := ⟨_, rfl⟩
         replace H : (if 0 ≤ (ji18) then (if (ji18) < (t295.length : Int) then (if (rd t295 (ji18)) < (rd t298 x25_1) then (if (wrap64 (x8_2 + 1)) > 200 then (some (0, 11)) else (pump_Delay.l1 k2 t295 (wrap64 (x8_2 + 1)) x25_1 (rd t298 x25_1) t298 (t298.length : Int) x25_1)) else (pump_Delay.l0 k2 t295 x8_2 t298 (t298.length : Int) (wrap64 (x25_1 + 1)))) else (none)) else (none)) = some (r1, r2) := by first | (rw [hji18] at H; exact H) | (simp only [hji18] at H ⊢; exact H)
         have hji18w : (IntKind.i64.wrap (x25_1 + x8_2)) = ji18 := (i64_w _).trans hji18
         by_cases c19 : 0 ≤ (ji18)
         ·
          rw [if_pos c19] at H
          have c19b0 : decide (0 ≤ (ji18)) = true := decide_eq_true c19
          clear c19
          by_cases c20 : (ji18) < (t295.length : Int)
          ·
           rw [if_pos c20] at H
           have c20b0 : decide ((ji18) < (t295.length : Int)) = true := decide_eq_true c20
           clear c20
           by_cases c21 : (rd t295 (ji18)) < (rd t298 x25_1)
           ·
            rw [if_pos c21] at H
            have c21b0 : decide ((rd t295 (ji18)) < (rd t298 x25_1)) = true := decide_eq_true c21
            clear c21
            by_cases c22 : (wrap64 (x8_2 + 1)) > 200
            ·
             rw [if_pos c22] at H
             have c22b0 : decide (200 < (wrap64 (x8_2 + 1))) = true := decide_eq_true c22
             clear c22
             simp only [Option.some.injEq, Prod.mk.injEq] at H
             obtain ⟨rfl, rfl⟩ := H
             obtain ⟨Ao23, co23, eo23⟩ := Kd.R_slice HO_7.out
             subst eo23
             have p302 : 0 ≤ ((ji18) : Int) := of_decide_eq_true (zqD)
             have q302 : (ji18) < (t295.length : Int) := of_decide_eq_true (zqD)
             obtain ⟨ad302, e302, hx302_0⟩ := Kd.at_int (Kd.R_reads' HO_7.out).2.2 (ji18) p302 q302
             cases e302; replace p302 := eq_true p302; replace q302 := eq_true q302
             go_wp2
             go_ret2
             exact ⟨by first | rfl | (simp [errW_none, errW_some] <;> rfl) | (simp only [← hji18]; first | rfl | (simp [errW_none, errW_some] <;> rfl)) | (simp [*, errW_none, errW_some] <;> rfl), zqG HB.out GE293.out⟩
            ·
             rw [if_neg c22] at H
             have c22b0 : decide (200 < (wrap64 (x8_2 + 1))) = false := decide_eq_false c22
             clear c22
             have H' := zA H
             clear H
             obtain ⟨Ao24, co24, eo24⟩ := Kd.R_slice HO_7.out
             subst eo24
             have p302 : 0 ≤ ((ji18) : Int) := of_decide_eq_true (zqD)
             have q302 : (ji18) < (t295.length : Int) := of_decide_eq_true (zqD)
             obtain ⟨ad302, e302, hx302_0⟩ := Kd.at_int (Kd.R_reads' HO_7.out).2.2 (ji18) p302 q302
             cases e302; replace p302 := eq_true p302; replace q302 := eq_true q302
             go_wp2
             go_roundg k2
             case measure => have := HK1.out; have := HK2.out; omega
             case rel => exact ⟨(wrap64 (x8_2 + 1)), zqQ, H', ⟨by have := HK1.out; have := HK2.out; omega⟩, ⟨zqC HO_7.out⟩, ⟨zqC HO_23.out⟩, ⟨zqB BK293.out⟩, ⟨zqG HB.out GE293.out⟩⟩
           ·
            rw [if_neg c21] at H
            have c21b0 : decide ((rd t295 (ji18)) < (rd t298 x25_1)) = false := decide_eq_false c21
            clear c21
            have H' := zA H
            clear H
            obtain ⟨Ao25, co25, eo25⟩ := Kd.R_slice HO_7.out
            subst eo25
            have p302 : 0 ≤ ((ji18) : Int) := of_decide_eq_true (zqD)
            have q302 : (ji18) < (t295.length : Int) := of_decide_eq_true (zqD)
            obtain ⟨ad302, e302, hx302_0⟩ := Kd.at_int (Kd.R_reads' HO_7.out).2.2 (ji18) p302 q302
            cases e302; replace p302 := eq_true p302; replace q302 := eq_true q302
            go_wp2
            go_roundg k2
            case measure => have := HK1.out; have := HK2.out; omega
            case rel => exact ⟨(x8_2), (wrap64 (x25_1 + 1)), zqQ, zqQ, H', ⟨by have := HK1.out; have := HK2.out; omega⟩, ⟨zqC HO_7.out⟩, ⟨zqC HO_23.out⟩, ⟨zqB BK293.out⟩, ⟨zqG HB.out GE293.out⟩⟩
          ·
           rw [if_neg c20] at H
           exact absurd H (by simp)
         ·
          rw [if_neg c19] at H
          exact absurd H (by simp)
      ·
       rw [if_neg c17] at H
       exact absurd H (by simp)
     ·
      rw [if_neg c16] at H
      exact absurd H (by simp)
    ·
     rw [if_neg c15] at H
     have c15b0 : decide (x25_1 < (t298.length : Int)) = false := decide_eq_false c15
     clear c15
     simp only [Option.some.injEq, Prod.mk.injEq] at H
     obtain ⟨rfl, rfl⟩ := H
     go_wp2
     go_ret2
     exact ⟨zqR, zqG HB.out GE293.out⟩
 ·
  rw [if_neg c4] at H
  have c4b0 : (t294 == 0) = false := beq_eq_false_iff_ne.mpr c4
  have c4b1 : (t294 != 0) = true := bne_iff_ne.mpr c4
  simp only [Option.some.injEq, Prod.mk.injEq] at H
  obtain ⟨rfl, rfl⟩ := H
  go_enter Try.func32, Try.ntmps32
  go_wp2_with (first | ((with_reducible refine gate_dst (N := 2) rfl ?_); refine box_event ?hg (N := 2) ?hd (cs := #[.slice A0_0 l0_0.length c0_0, .slice A0_1 l0_1.length c0_1]) (t := 40) ?hr ?_; (case hd => rfl); (case hg => rfl); (case hr => first | (go_simp; done) | (go_simp; rfl)); intro gb293 hg w26 hbox hb; have n0_ := zA (below_step (zqA HB.out) hb); have n1_ := zA (hbox); have n2_ := zA ((by rw [hg]; exact (below_size (zqA HB.out)) : w.heap.size ≤ gb293)); have n3_ := zA ((by rw [hg]; exact (below_size (zqA HB.out)) : w.heap.size ≤ gb293)); clear HB; have HB := n0_; have BK293 := n1_; have GW293 := n2_; have GE293 := n3_; clear n0_ n1_ n2_ n3_; clear hb hbox hg; have hcz27_0 : w26.cell? ⟨gb293, 0, none⟩ = some (.slice A0_0 l0_0.length c0_0) := (blk_cell BK293.out 0).trans rfl; have hcz27_1 : w26.cell? ⟨gb293, 1, none⟩ = some (.slice A0_1 l0_1.length c0_1) := (blk_cell BK293.out 1).trans rfl; have hfz27_0 := blk_frozen BK293.out 0; have hfz27_1 := blk_frozen BK293.out 1) | ((with_reducible refine gate_callee (f := 63) rfl ?_); refine goesL_ (some 13) rfl rfl Try.func63 (by kernel_rfl) rfl #[.agg #[.slice A0_0 l0_0.length c0_0, .slice A0_1 l0_1.length c0_1], .int .i64 a1] rfl zqE ?_; (with_reducible refine (pump_planned.calls _ _ l0_0 _ _ l0_1 a1 t294 _ ?side1 ?side2 ?side3 ?side4 A3.out).mono ?_); (case side1 => exact zqK (Kd.C_below HR0_0.out HB.out)); (case side2 => exact HC0_0.out); (case side3 => exact zqK (Kd.C_below HR0_1.out HB.out)); (case side4 => exact HC0_1.out); rintro e w28 ⟨rfl, hb⟩; refine ⟨_, rfl, ?_⟩; have n0_ := zA (blk_below (g := gb293) (o := .cells #[.slice A0_0 l0_0.length c0_0, .slice A0_1 l0_1.length c0_1] 40 (0, 0)) (zqB BK293.out) hb); have n1_ := zA (below_step (zqG HB.out GE293.out) hb); clear BK293; clear HB; have BK293 := n0_; have HB := n1_; clear n0_ n1_; (try clear hb); (try clear hb2); (try clear hk); (try clear hi)))
  go_ret2
  exact ⟨zqR, zqG HB.out GE293.out⟩
end Go.Proofs.Ythoeindopljmkaa.P
end
