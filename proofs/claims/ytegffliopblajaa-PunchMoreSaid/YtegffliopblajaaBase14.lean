/- Words and contracts for a claim. -/
import Derived.Test.YtegffliopblajaaBase13
import Derived.Laws.EntriesVeiled
import Derived.Deep.RegionLaw
section
namespace Go.Proofs.Ytegffliopblajaa.P
open Go.Shelf Go.RowKit Go.Proofs.YtegffliopblajaaW.PrintWords Go.Proofs.YtegffliopblajaaW.PrintLast Go.Proofs.YtegffliopblajaaW.PrintMore
set_option linter.unusedVariables false
set_option linter.unusedSimpArgs false
attribute [local go_sem] Oper.semAt_some
theorem blk_both {W w9 : World} {g : Nat} {o : Obj} (h : W.heap[g]? = some o) (hb : Below W.heap.size W w9) : w9.heap[g]? = some o ∧ g < W.heap.size := by
  have h2 := (Array.getElem?_eq_some_iff.1 h).1
  exact ⟨(hb.block g h2).trans h, h2⟩
theorem frozen_same {W W' : World} {b i : Nat} (h : W'.heap[b]? = W.heap[b]?) : W'.frozen? ⟨b, i, none⟩ = W.frozen? ⟨b, i, none⟩ := by
  unfold World.frozen?
  rw [show (⟨b, i, none⟩ : Addr).block = b from rfl, h]
theorem size_set (W : World) (p : Addr) (u : Value) : (W.setCell p u).heap.size = W.heap.size := by unfold World.setCell; simp
theorem below_setz {n : Nat} {A B : World} (h : Below n A B) (g j : Nat) (u : Value) (hg : n ≤ g) : Below n A (B.setCell ⟨g, j, none⟩ u) :=
  ⟨h.os, h.tape, h.output, by rw [size_set]; exact h.size, fun k hk => (Below.heap_setCell B ⟨g, j, none⟩ u k (fun e => by have : k = g := e; omega)).trans (h.block k hk)⟩
theorem below_chain {n m : Nat} {A B C : World} (h : Below n A B) (k : Below m B C) (hn : n ≤ m) : Below n A C :=
  ⟨k.os.trans h.os, k.tape.trans h.tape, k.output.trans h.output, Nat.le_trans h.size k.size, fun i hi => (k.block i (by omega)).trans (h.block i hi)⟩
theorem below_t {A B C : World} (h : Below A.heap.size A B) (k : Below B.heap.size B C) : Below A.heap.size A C := h.trans (k.mono h.size)
def mexF (cs : List Int) : Nat → Nat → Nat
  | 0, n => n
  | k + 1, n => if (n : Int) ∈ cs then mexF cs k (n + 1) else n
def mexL (cs : List Int) : Nat := mexF cs cs.length 0
theorem mexF_eq {cs : List Int} {m : Nat} (h : IsMex cs m) : ∀ (k n : Nat), n ≤ m → m ≤ n + k → mexF cs k n = m
  | 0, n, h1, h2 => by unfold mexF; omega
  | k + 1, n, h1, h2 => by
    unfold mexF
    by_cases e : n = m
    · subst e; rw [if_neg h.1]
    · rw [if_pos (h.2 n (by omega))]
      exact mexF_eq h k (n + 1) (by omega) (by omega)
theorem mexL_eq {cs : List Int} {m : Nat} (h : IsMex cs m) : m = mexL cs := (mexF_eq h _ _ (Nat.zero_le _) (by have := cover_len h.2; omega)).symm
def passOf (rest : Int) (l : List S47) (ps : List Int) (o : Int) : Int := (mexL (clashL l ps rest (rd_T47 l o).f0 (rd_T47 l o).f1 l.length 0) : Nat)
def fillL (rest : Int) (l : List S47) : List Int → List Int → List Int
  | [], ps => ps
  | o :: os, ps => fillL rest l os (ps.set o.toNat (passOf rest l ps o))
theorem fillL_append (rest : Int) (l : List S47) : ∀ (a b ps : List Int), fillL rest l (a ++ b) ps = fillL rest l b (fillL rest l a ps)
  | [], _, _ => rfl
  | o :: a, b, ps => fillL_append rest l a b _
theorem fillL_len (rest : Int) (l : List S47) : ∀ (a ps : List Int), (fillL rest l a ps).length = ps.length
  | [], _ => rfl
  | o :: a, ps => (fillL_len rest l a _).trans (by rw [List.length_set])
def planL (rest : Int) (l : List S47) : List Int := (fillL rest l (ordL l) (List.replicate 40 (-1))).take l.length
def punch_Passes.f (a0_0 : Int) (l0_1 : List S47) : Option (List Int × Int × Int) :=
  (punch_Check.f a0_0 l0_1).bind fun e => if e = 0 then (if l0_1.length ≤ 40 then (punch_passes.f (l0_1.length + 1) (planL a0_0 l0_1)).bind fun m => some (planL a0_0 l0_1, m, 0) else none) else some ([], 0, e)
theorem smallest_f (B : Nat) (rest : Int) (A : Option Addr) (c : Nat) (l : List S47) (ps : List Int) (o : Int) (w : World) (hl : l.length ≤ 40) (hc : l.length ≤ c) (SHW : Sh w B rest A l.length c ps) (hC : Kd.C k47 w A l.length l) :
    Calls Try.prog 61 #[.pointer (some ⟨B, 0, none⟩), .agg #[.int .i64 (rd_T47 l o).f0, .int .i64 (rd_T47 l o).f1]] w fun e w' => e = .returned (.int .i64 (passOf rest l ps o)) ∧ Below w.heap.size w w' :=
  (smallest_c B rest A c l ps _ _ w hl hc SHW hC).mono fun e w' ⟨m, he, hm, hb⟩ => ⟨by rw [he, passOf, ← mexL_eq hm], hb⟩
def numsAt (n k : Nat) : List Int := (List.range n).map fun j => if j < k then (j : Int) else 0
theorem numsAt_zero (n : Nat) : numsAt n 0 = List.replicate n 0 := by
  unfold numsAt
  rw [List.map_congr_left (g := fun _ => (0 : Int)) (fun j _ => by simp), List.map_const', List.length_range]
theorem numsAt_len (n k : Nat) : (numsAt n k).length = n := by simp [numsAt]
theorem numsAt_succ {n k : Nat} (h : k < n) : numsAt n (k + 1) = (numsAt n k).set k k := by
  refine List.ext_getElem (by simp [numsAt]) (fun j hj hj2 => ?_)
  rw [List.getElem_set]
  simp only [numsAt, List.getElem_map, List.getElem_range]
  by_cases e : k = j
  · rw [if_pos e, if_pos (by omega), ← e]
  · rw [if_neg e]
    by_cases c : j < k
    · rw [if_pos c, if_pos (by omega)]
    · rw [if_neg c, if_neg (by omega)]
theorem numsAt_full (n i : Nat) (h : i < n) : rd (numsAt n n) (i : Int) = i := by
  unfold rd
  rw [Int.toNat_natCast, List.getD_eq_getElem?_getD, List.getElem?_eq_getElem (by rw [numsAt_len]; exact h)]
  simp [numsAt, h]
theorem order58' (Bg Bj blk cap : Nat) (A : Option Addr) (c : Nat) (l : List S47) (W0 W : World) (hl : l.length ≤ 40) (hg : W.cell? ⟨Bg, 0, none⟩ = some (.func (.func 57) #[] #[])) (hj : W.cell? ⟨Bj, 1, none⟩ = some (.slice A l.length c))
    (hr : Kd.C k47 W0 A l.length l) (hb : Below W0.heap.size W0 W) (hblk : W0.heap.size ≤ blk) (hlt : blk < W.heap.size) (ng : Bg ≠ blk) (nj : Bj ≠ blk)
    (hrow : ∀ i, i < l.length → W.cell? ⟨blk, i, none⟩ = some (.int .i64 i) ∧ W.frozen? ⟨blk, i, none⟩ = false) :
    Calls Try.prog 58 #[.slice (some ⟨blk, 0, none⟩) l.length cap, .func (.func 59) #[] #[.pointer (some ⟨Bg, 0, none⟩), .pointer (some ⟨Bj, 0, none⟩)]] W fun e w' => e = .returned (.tuple #[]) ∧
      (∀ i, i < l.length → w'.cell? ⟨blk, i, none⟩ = some (.int .i64 ((ordL l).getD i 0))) ∧ (∀ k, k < W.heap.size → k ≠ blk → w'.heap[k]? = W.heap[k]?) ∧ (∀ base, base ≤ blk → Below base W w') := by
  by_cases h0 : 0 < l.length
  · exact (order58 Bg Bj blk cap A c l W0 W h0 hl hg hj hr hb hblk hlt ng nj hrow).mono fun e w' ⟨h1, h2, h3, h4⟩ => ⟨h1, fun i hi => (h2 i hi).1, h3, h4⟩
  · have e0 : l.length = 0 := by omega
    rw [e0]
    refine (sort0_58 _ cap _ W).mono ?_
    rintro e w' ⟨rfl, rfl⟩
    exact ⟨rfl, fun i hi => by omega, fun _ _ _ => rfl, fun base h => (Below.refl _ _).mono (by omega)⟩
theorem ordL_mem {l : List S47} {i : Nat} (h : i < l.length) : 0 ≤ (ordL l).getD i 0 ∧ (ordL l).getD i 0 < l.length := by
  rw [List.getD_eq_getElem?_getD]
  unfold ordL
  simp only [List.getElem?_map, List.getElem?_eq_getElem (show i < (ordF l).length by rw [ordF_len]; exact h), Option.map_some, List.getElem_map, Option.getD_some]
  have := ((ordF l)[i]'(by rw [ordF_len]; exact h)).2
  constructor <;> omega
theorem fill_step (rest : Int) (l : List S47) (ps : List Int) {k : Nat} (h : k < l.length) : fillL rest l ((ordL l).take (k + 1)) ps = (fillL rest l ((ordL l).take k) ps).set ((ordL l).getD k 0).toNat (passOf rest l (fillL rest l ((ordL l).take k) ps) ((ordL l).getD k 0)) := by
  rw [List.take_succ_eq_append_getElem (by rw [ordL_len]; exact h), fillL_append]
  have e : (ordL l)[k]'(by rw [ordL_len]; exact h) = (ordL l).getD k 0 := by rw [List.getD_eq_getElem?_getD, List.getElem?_eq_getElem (by rw [ordL_len]; exact h)]; rfl
  rw [e]
  rfl
theorem make_form {W : World} {base b0 : Nat} {ok : Nat → Prop} {v : Value} {xs : List Int} (ho : (Kd.int .i64).R 3 W base ok v xs) (hn : ∃ b, v.ownBlock = some b ∧ b0 ≤ b) : ∃ g cap, v = .slice (some ⟨g, 0, none⟩) xs.length cap ∧ base ≤ g ∧ g < W.heap.size := by
  have h2 := Kd.own_of_R ho
  obtain ⟨_, h3⟩ := h2
  rcases h3 with ⟨h3, _⟩ | ⟨g, cap, cur, e, hb, hg, hn, hm, hs, ht⟩
  · subst h3
    obtain ⟨b, h4, _⟩ := hn
    cases h4
  · exact ⟨g, cap, e, hb, (Array.getElem?_eq_some_iff.1 hg).1⟩
set_option maxHeartbeats 8000000 in
set_option maxRecDepth 100000 in
theorem punch_Passes.calls (a0_0 : Int) (A0_1 : Option Addr) (c0_1 : Nat) (l0_1 : List S47) (r1 : List Int) (r2 r3 : Int) (w : World) (hr0_1 : Kd.C k47 w A0_1 l0_1.length l0_1) (hc0_1 : l0_1.length ≤ c0_1) (h : punch_Passes.f a0_0 l0_1 = some (r1, r2, r3)) :
  Calls Try.prog 22 #[.agg #[.int .i64 a0_0, .slice A0_1 l0_1.length c0_1]] w fun e w' => ∃ v, e = .returned (.tuple #[v, .int .i64 r2, .int .i64 r3]) ∧ (Kd.int .i64).R 3 w' w.heap.size (fun _ => True) v r1 ∧ Below w.heap.size w w' := by
 have mixed : Try.prog.follows .mixedOrders = true := by kernel_rfl
 have hu24 := Try.underlying24
 have hu22 := Try.underlying22
 have hu26 := Try.underlying26
 have hu47 := Try.underlying47
 have hu108 := Try.underlying108
 have hu106 := Try.underlying106
 unfold punch_Passes.f at h
 obtain ⟨er, her, h⟩ := Option.bind_eq_some_iff.mp h
 have HR := zA hr0_1
 have HE := zA her
 obtain ⟨g1, hg1⟩ : ∃ g1, g1 = w.heap.size := ⟨_, rfl⟩
 have K20 := zA (punch_Check.calls a0_0 A0_1 c0_1 l0_1 er (w.alloc (.cells #[.int .i64 a0_0, .slice A0_1 l0_1.length c0_1] 24)) (Kd.C_below hr0_1 (below_alloc (Below.refl _ _) _)) hc0_1 her)
 clear hr0_1 her
 go_enter Try.func22, Try.ntmps22
 have HH := zA h
 clear h
 go_wp2_with fail
 refine K20.out.mono ?_
 rintro e w1 ⟨rfl, hb⟩
 have BJ := zA (blk_both (heap_alloc_new w (.cells #[.int .i64 a0_0, .slice A0_1 l0_1.length c0_1] 24)) hb).1
 have HB := zA ((below_alloc (Below.refl w.heap.size w) (.cells #[.int .i64 a0_0, .slice A0_1 l0_1.length c0_1] 24)).trans (hb.mono (by simp)))
 rw [← hg1] at BJ
 rw [← hg1]
 have hj0 : w1.cell? ⟨g1, 0, none⟩ = some (.int .i64 a0_0) := (blk_cell BJ.out 0).trans rfl
 have hj1 : w1.cell? ⟨g1, 1, none⟩ = some (.slice A0_1 l0_1.length c0_1) := (blk_cell BJ.out 1).trans rfl
 clear K20 hb
 have HG1 := zA hg1
 clear hg1
 by_cases ce : er = 0
 ·
  subst ce
  have h := HH.out
  rw [if_pos rfl] at h
  split at h
  case isFalse => cases h
  rename_i hl
  obtain ⟨m, hm, h⟩ := Option.bind_eq_some_iff.mp h
  injection h with h
  injection h with h1 h
  injection h with h2 h3
  subst h1 h2 h3
  have HM := zA hm
  clear hm HH
  have m0 : decide (0 ≤ (l0_1.length : Int)) = true := decide_eq_true (by omega)
  have m1 : decide ((l0_1.length : Int).toNat ≤ 35184372088832) = true := decide_eq_true (by omega)
  go_wp2_with (first | ((with_reducible refine gate_dst (N := 20) rfl ?_); refine Kd.R_make (Kd.int .i64) _ 3 rfl (N := 20) rfl 26 _ _ rfl (l0_1.length : Int) rfl rfl Try.underlying26 (.int .i64 0) 8 info3 rfl (by decide) (by omega) 0 (ok := fun _ => True) (okp := fun _ => True) rfl (fun _ hk => hk) trivial (of_decide_eq_true m0) (Nat.le_trans (Nat.mul_le_mul_right _ (of_decide_eq_true m1 : (l0_1.length : Int).toNat ≤ 35184372088832)) (by omega)) (Below.refl _ _) (Nat.le_refl _) ?_; intro v20 w2 ho hb2 hg_ hnew_; obtain ⟨g2, c2, ev, q1, q2⟩ := make_form ho hnew_; rw [show (List.replicate (l0_1.length : Int).toNat (0 : Int)).length = l0_1.length by simp] at ev; subst ev; have HV := zA ho; have HB2 := zA hb2; have G2 := zA (And.intro q1 q2); clear hg_ hnew_ ho hb2 q1 q2) | fail)
  have HV0 := zA (show (Kd.int .i64).R 3 w2 w1.heap.size (fun _ => True) (.slice (some ⟨g2, 0, none⟩) l0_1.length c2) (numsAt l0_1.length 0) from by
   rw [numsAt_zero]; have := HV.out; rw [show (l0_1.length : Int).toNat = l0_1.length from Int.toNat_natCast _] at this; exact this)
  clear HV m0 m1 hj0 hj1
  go_loopg [23] l0_1.length (fun kq v23 w' => ∃ k : Nat, v23 = .int .i64 k ∧ k ≤ l0_1.length ∧ l0_1.length - k ≤ kq ∧ Aside0 ((Kd.int .i64).R 3 w' w1.heap.size (fun _ => True) (.slice (some ⟨g2, 0, none⟩) l0_1.length c2) (numsAt l0_1.length k)) ∧ Aside0 (Below w1.heap.size w2 w'))
  case atStart => exact ⟨0, rfl, Nat.zero_le _, by omega, HV0, ⟨Below.refl _ _⟩⟩
  case round =>
   clear HV0
   obtain ⟨k, rfl, hk, hkx, HV, HB3⟩ := hrel
   by_cases q : k < l0_1.length
   ·
    have qz : (k : Int) < l0_1.length := by omega
    obtain ⟨hc0, hf0⟩ := Kd.R_celln 0 HV.out (k : Int) (by omega) qz
    rw [Int.toNat_natCast] at hc0 hf0
    obtain ⟨x0, hx0⟩ : ∃ x0, rdOf 0 (numsAt l0_1.length k) (k : Int) = x0 := ⟨_, rfl⟩
    rw [hx0] at hc0
    clear hx0
    go_wp2
    go_roundg (l0_1.length - (k + 1))
    case measure => omega
    case rel => exact ⟨k + 1, by first | rfl | simp, by omega, Nat.le_refl _, ⟨by
     have := Kd.R_putn HV.out (k : Int) (k : Int)
     rw [Int.toNat_natCast, ← numsAt_succ q] at this
     exact this⟩, ⟨below_setz HB3.out _ _ _ G2.out.1⟩⟩
   ·
    obtain rfl : k = l0_1.length := by omega
    have hrow : ∀ i, i < l0_1.length → wr.cell? ⟨g2, i, none⟩ = some (.int .i64 i) ∧ wr.frozen? ⟨g2, i, none⟩ = false := fun i hi => by
     have := Kd.R_celln 0 HV.out (i : Int) (by omega) (by omega)
     rw [Int.toNat_natCast] at this
     rw [show rdOf 0 (numsAt l0_1.length l0_1.length) (i : Int) = i from numsAt_full _ _ hi] at this
     exact this
    have hlt2 := Nat.lt_of_lt_of_le G2.out.2 HB3.out.size
    have bwr : Below w1.heap.size w1 wr := HB2.out.trans HB3.out
    obtain ⟨W3, hW3⟩ : ∃ W3, W3 = (wr.alloc (.cells #[.func (.func 57) #[] #[]] 100)) := ⟨_, rfl⟩
    have b3 : Below wr.heap.size wr W3 := by rw [hW3]; exact below_alloc (Below.refl _ _) _
    have s3 : W3.heap.size = wr.heap.size + 1 := by rw [hW3]; simp
    have B13 := zA (bwr.trans (b3.mono bwr.size))
    have lj : g1 < w1.heap.size := (Array.getElem?_eq_some_iff.1 BJ.out).1
    have BJ3 := zA ((B13.out.block _ lj).trans BJ.out)
    have BG3 : Aside0 (W3.heap[wr.heap.size]? = some (.cells #[.func (.func 57) #[] #[]] 100 (0, 0))) := ⟨by rw [hW3]; exact heap_alloc_new _ _⟩
    have K58 := zA (order58' wr.heap.size g1 g2 c2 A0_1 c0_1 l0_1 w1 W3 hl ((blk_cell BG3.out 0).trans rfl) ((blk_cell BJ3.out 1).trans rfl) (Kd.C_below HR.out HB.out) B13.out G2.out.1 (by omega) (by omega) (by have := G2.out.1; omega)
     (fun i hi => ⟨(b3.cell (World.block_lt_of_cell? _ _ (hrow i hi).1)).trans (hrow i hi).1, (frozen_same (b3.block _ hlt2)).trans (hrow i hi).2⟩))
    have HW3 := zA hW3
    clear hrow b3 hW3 bwr
    go_wp2_with fail
    rw [← HW3.out]
    refine K58.out.mono ?_
    rintro e w4 ⟨rfl, hord, hsame, hbel⟩
    have b14 : Below w1.heap.size w1 w4 := B13.out.trans (hbel _ G2.out.1)
    have s4 : W3.heap.size ≤ w4.heap.size := (hbel _ G2.out.1).size
    have BJ4 := zA ((b14.block _ lj).trans BJ.out)
    have hj40 : w4.cell? ⟨g1, 0, none⟩ = some (.int .i64 a0_0) := (blk_cell BJ4.out 0).trans rfl
    have hj41 : w4.cell? ⟨g1, 1, none⟩ = some (.slice A0_1 l0_1.length c0_1) := (blk_cell BJ4.out 1).trans rfl
    have HORD := zA hord
    have B14 := zA b14
    clear hord hsame hbel b14 K58 BG3 BJ3 HW3
    go_wp2_with fail
    refine (blank60 a0_0 A0_1 l0_1.length c0_1 w4).mono ?_
    rintro e w5 ⟨B, rfl, hsh, hB, hb5⟩
    have SH5 := zA hsh
    have B5 := zA hb5
    have HBB := zA hB
    have lB : B < w5.heap.size := blk_lt hsh.2
    clear hsh hb5 hB hj40 hj41
    go_wp2_with fail
    clear HV HB3
    go_loopg [38] l0_1.length (fun kq v38 w' => ∃ k : Nat, v38 = .int .i64 k ∧ k ≤ l0_1.length ∧ l0_1.length - k ≤ kq ∧ Aside0 (Sh w' B a0_0 A0_1 l0_1.length c0_1 (fillL a0_0 l0_1 ((ordL l0_1).take k) (List.replicate 40 (-1)))) ∧ Aside0 (Below B w5 w'))
    case atStart => exact ⟨0, rfl, Nat.zero_le _, by omega, SH5, ⟨Below.refl _ _⟩⟩
    case round =>
     clear SH5
     obtain ⟨k, rfl, hk, hkx, SH, HB6⟩ := hrel
     have b4r : Below w4.heap.size w4 wr := below_chain B5.out HB6.out HBB.out
     have BJ6 := zA ((blk_both BJ4.out b4r).1)
     have B46 := zA b4r
     by_cases q : k < l0_1.length
     ·
      have qz : (k : Int) < l0_1.length := by omega
      obtain ⟨o, ho⟩ : ∃ o, o = (ordL l0_1).getD k 0 := ⟨_, rfl⟩
      have hok : w4.cell? ⟨g2, k, none⟩ = some (.int .i64 o) := by rw [ho]; exact HORD.out k q
      have hok6 := (b4r.cell (World.block_lt_of_cell? _ _ hok)).trans hok
      obtain ⟨o0, o1⟩ := ordL_mem q
      rw [← ho] at o0 o1
      have HO := zA ho
      clear ho
      obtain ⟨ad, e, s0, s1⟩ := at_T47 HR.out o o0 o1
      subst e
      have bw0 : Below w.heap.size w wr := below_chain HB.out (below_t B14.out b4r) HB.out.size
      have s06 := (bw0.cell (World.block_lt_of_cell? _ _ s0)).trans s0
      have s16 := (bw0.cell (World.block_lt_of_cell? _ _ s1)).trans s1
      obtain ⟨on, hon⟩ : ∃ on : Nat, o = on := ⟨o.toNat, by omega⟩
      subst hon
      have on1 : on < l0_1.length := by omega
      have on40 : on < 40 := by omega
      have on40z : (on : Int) < 40 := by omega
      have hj61 : wr.cell? ⟨g1, 1, none⟩ = some (.slice (some ad) l0_1.length c0_1) := (blk_cell BJ6.out 1).trans rfl
      obtain ⟨ps, hps⟩ : ∃ ps, ps = fillL a0_0 l0_1 ((ordL l0_1).take k) (List.replicate 40 (-1)) := ⟨_, rfl⟩
      have hst := fill_step a0_0 l0_1 (List.replicate 40 (-1)) q
      rw [← hps, ← HO.out, Int.toNat_natCast] at hst
      rw [← hps] at SH
      obtain ⟨pv, hpv⟩ : ∃ pv, pv = passOf a0_0 l0_1 ps (on : Int) := ⟨_, rfl⟩
      rw [← hpv] at hst
      have K61 := smallest_f B a0_0 (some ad) c0_1 l0_1 ps (on : Int) wr.drew hl hc0_1 (SH.out.below (below_drew1 (Below.refl _ _))) (Kd.C_below HR.out (below_drew1 bw0))
      rw [← hpv] at K61
      obtain ⟨fx, hfx⟩ : ∃ fx, fx = (rd_T47 l0_1 (on : Int)).f0 := ⟨_, rfl⟩
      obtain ⟨tx, htx⟩ : ∃ tx, tx = (rd_T47 l0_1 (on : Int)).f1 := ⟨_, rfl⟩
      rw [← hfx] at s06 K61
      rw [← htx] at s16 K61
      rw [Int.toNat_natCast] at s06 s16
      have KK := zA K61
      have HST := zA hst
      clear K61 hst hps hpv hfx htx s0 s1 bw0 hok HO b4r
      go_wp2
      go_region_law (refine goes_ Try.func61 (by kernel_rfl) rfl #[.pointer (some ⟨B, 0, none⟩), .agg #[.int .i64 fx, .int .i64 tx]] (by rfl) rfl rfl (by (try simp only [List.map_toArray, List.map_cons, List.map_nil]); first | done | rfl) ?_; refine KK.out.mono ?_; rintro e wh ⟨rfl, hb⟩; refine ⟨_, rfl, ?_⟩; have B7 := zA ((below_drew1 (Below.refl wr.heap.size wr)).trans hb); have SH7 := zA (SH.out.below B7.out); have c7 := SH7.out.cell on40; have f7 := blk_frozen SH7.out.2 (2 + on); clear hb)
      all_goals
       have HS8 := zA (SH7.out.put on pv)
       have HB8 := zA (below_setz (HB6.out.trans (B7.out.mono (Nat.le_trans (Nat.le_of_lt lB) HB6.out.size))) B (2 + on) (.int .i64 pv) (Nat.le_refl _))
       obtain ⟨W8, hW8⟩ : ∃ W8, W8 = wh.setCell ⟨B, 2 + on, none⟩ (.int .i64 pv) := ⟨_, rfl⟩
       rw [← hW8] at HS8 HB8 ⊢
       clear hW8 c7 f7 s06 s16 hj61 hok6
       have hwk : IntKind.i64.wrap ((k : Int) + 1) = ((k + 1 : Nat) : Int) := (i64_w _).trans (by unfold wrap64; omega)
       go_wp2
       go_roundg (l0_1.length - (k + 1))
       case measure => omega
       case rel => exact ⟨k + 1, rfl, by omega, Nat.le_refl _, ⟨by rw [HST.out]; exact HS8.out⟩, HB8⟩
     ·
      obtain rfl : k = l0_1.length := by omega
      have SHF : Aside0 (Sh wr B a0_0 A0_1 l0_1.length c0_1 (fillL a0_0 l0_1 (ordL l0_1) (List.replicate 40 (-1)))) := ⟨by have := SH.out; rwa [List.take_of_length_le (by rw [ordL_len]; exact Nat.le_refl _)] at this⟩
      have hcl := Any.slices_Clone_int Try.lclo B 2 l0_1.length 40 (fillL a0_0 l0_1 (ordL l0_1) (List.replicate 40 (-1))) wr (by rw [fillL_len, List.length_replicate]; exact hl) (by omega) (fun j hj => SHF.out.cell (by rw [fillL_len, List.length_replicate] at hj; exact hj))
      have HCL := zA hcl
      clear hcl
      have hl2 : l0_1.length ≤ 40 := hl
      have hlz : (l0_1.length : Int) ≤ 40 := by omega
      go_wp2_with fail
      refine HCL.out.mono ?_
      rintro e w7 ⟨v7, rfl, hown, _, hb7⟩
      have bw7 : Below w.heap.size w w7 := below_chain HB.out (below_t B14.out (below_t B46.out hb7)) HB.out.size
      have hlen : (planL a0_0 l0_1).length = l0_1.length := by unfold planL; rw [List.length_take, fillL_len, List.length_replicate]; omega
      have hR7 : (Kd.int .i64).R 3 w7 wr.heap.size (fun _ => True) v7 (planL a0_0 l0_1) := Kd.R_of_own (enc := Value.int .i64) (h1 := fun _ => rfl) (by rw [hlen]; exact hown) (fun _ _ => trivial)
      obtain ⟨A7, c7, rfl, l7, C7⟩ := Kd.R_reads hR7
      have HR7 := zA hR7
      have C7' := zA C7
      have BW7 := zA bw7
      have HSZ := zA (show w.heap.size ≤ wr.heap.size from Nat.le_trans HB.out.size (below_t B14.out B46.out).size)
      clear hown hb7 hR7 C7 bw7 hlen
      obtain ⟨pl, hpl⟩ : ∃ pl, pl = planL a0_0 l0_1 := ⟨_, rfl⟩
      rw [← hpl] at HR7 C7' l7 HM ⊢
      have HPL := zA hpl
      clear hpl
      go_wp2_with fail
      with_reducible refine (punch_passes.calls (l0_1.length + 1) A7 c7 pl m w7 ?side1 ?side2 ?side3).mono ?_
      case side1 => exact C7'.out
      case side2 => exact l7
      case side3 => exact HM.out
      rintro e w8 ⟨rfl, hb8⟩
      have HB8 := zA hb8
      clear hb8
      go_wp2
      refine bodyPost_ret (results_tmp3 rfl _ _ _) rfl ?_
      rw [← HPL.out]
      exact ⟨.slice A7 pl.length c7, rfl, Kd.R_lower (Kd.R_below HR7.out HB8.out) HSZ.out, below_chain BW7.out HB8.out BW7.out.size⟩
 ·
  have h := HH.out
  rw [if_neg ce] at h
  injection h with h
  injection h with h1 h
  injection h with h2 h3
  subst h1 h2 h3
  go_wp2
  refine bodyPost_ret (results_tmp3 rfl _ _ _) rfl ?_
  exact ⟨_, rfl, Kd.R_nil _ _ _ _ _, HB.out⟩
end Go.Proofs.Ytegffliopblajaa.P
end
section
namespace Go.Proofs.Ytegffliopblajaa.P
open Go.RowKit Go.Proofs.YtegffliopblajaaW.PrintWords Go.Proofs.YtegffliopblajaaW.PrintLast Go.Proofs.YtegffliopblajaaW.PrintMore
attribute [local go_sem] max2_int min2_int max_two min_two max_three min_three max_four min_four
set_option linter.unusedVariables false
set_option linter.unusedSimpArgs false
theorem eqA47 (d : Nat) (w : World) (x0 y0 : Int) (x1 y1 : Int) :
    (Op.equalIn (d + 2) 47 (.agg #[.int .i64 x0, .int .i64 x1]) (.agg #[.int .i64 y0, .int .i64 y1])).run Try.prog w = .ok (x0 == y0 && (x1 == y1)) w := by
  refine eqA_of Try.underlying47 (by kernel_rfl) ?_
  refine eqf_cons (by rfl) (by go_simp; rfl) (by go_simp; rfl) (by go_simp) ?_
  exact eqf_last (by rfl) (by go_simp; rfl) (by go_simp; rfl) (by go_simp)
end Go.Proofs.Ytegffliopblajaa.P
end
section
namespace Go.Proofs.Ytegffliopblajaa.P
open Go.RowKit Go.Proofs.YtegffliopblajaaW.PrintWords Go.Proofs.YtegffliopblajaaW.PrintLast Go.Proofs.YtegffliopblajaaW.PrintMore
set_option linter.unusedVariables false
set_option linter.unusedSimpArgs false
attribute [local go_sem] Oper.semAt_some
def inB (rest m : Int) (x : S47) : Bool := decide (x.f0 ≤ m) && decide (m < wrap64 (x.f1 + rest))
def crowdTo (rest m : Int) (l : List S47) (k : Nat) : List Int := ((List.range k).filter fun (i : Nat) => inB rest m (rd_T47 l (i : Int))).map fun (i : Nat) => (i : Int)
def crowdL (rest m : Int) (l : List S47) : List Int := crowdTo rest m l l.length
theorem crowdTo_succ (rest m : Int) (l : List S47) (k : Nat) : crowdTo rest m l (k + 1) = if inB rest m (rd_T47 l (k : Int)) = true then crowdTo rest m l k ++ [(k : Int)] else crowdTo rest m l k := by
  unfold crowdTo
  rw [List.range_succ, List.filter_append, List.map_append]
  by_cases h : inB rest m (rd_T47 l (k : Int)) = true
  · rw [if_pos h]; simp [h]
  · rw [if_neg h]; simp [h]
theorem crowdTo_len (rest m : Int) (l : List S47) (k : Nat) : (crowdTo rest m l k).length ≤ k := by
  unfold crowdTo
  rw [List.length_map]
  exact Nat.le_trans (List.length_filter_le _ _) (by rw [List.length_range]; exact Nat.le_refl _)
set_option maxHeartbeats 2000000 in
set_option maxRecDepth 100000 in
theorem crowd49 (a m : Int) (A : Option Addr) (n c : Nat) (w : World) : Calls Try.prog 49 #[.agg #[.int .i64 a, .slice A n c], .int .i64 m] w fun e w' =>
    ∃ Bm Bj, e = .returned (.func (.func 76) #[] #[.pointer (some ⟨Bm, 0, none⟩), .pointer (some ⟨Bj, 0, none⟩)]) ∧ w'.heap[Bm]? = some (.cells #[.int .i64 m] 3 (0, 0)) ∧ w'.heap[Bj]? = some (.cells #[.int .i64 a, .slice A n c] 24 (0, 0)) ∧ w.heap.size ≤ Bm ∧ w.heap.size ≤ Bj ∧ Below w.heap.size w w' := by
  have hu24 := Try.underlying24
  go_enter Try.func49, Try.ntmps49
  go_wp2
  go_ret
  refine ⟨_, _, rfl, ?_, ?_, by simp, by simp, below_alloc (below_alloc (Below.refl _ _) _) _⟩
  · have := heap_alloc_new (w.alloc (.cells #[.int .i64 a, .slice A n c] 24)) (.cells #[.int .i64 m] 3)
    rw [World.size_alloc] at this
    exact this
  · exact (Below.heap_alloc _ _ _ (by simp)).trans (heap_alloc_new w _)
set_option maxHeartbeats 2000000 in
set_option maxRecDepth 100000 in
theorem in76 (rest m : Int) (x : S47) (A : Option Addr) (n c Bm Bj : Nat) (W : World) (hm : W.heap[Bm]? = some (.cells #[.int .i64 m] 3 (0, 0))) (hj : W.heap[Bj]? = some (.cells #[.int .i64 rest, .slice A n c] 24 (0, 0))) :
    Calls Try.prog 76 (#[.agg #[.int .i64 x.f0, .int .i64 x.f1]] ++ #[.pointer (some ⟨Bm, 0, none⟩), .pointer (some ⟨Bj, 0, none⟩)]) W fun e w' => e = .returned (.bool (inB rest m x)) ∧ Below W.heap.size W w' := by
  have hu24 := Try.underlying24
  have hu47 := Try.underlying47
  have cm : W.cell? ⟨Bm, 0, none⟩ = some (.int .i64 m) := (blk_cell hm 0).trans rfl
  have cj : W.cell? ⟨Bj, 0, none⟩ = some (.int .i64 rest) := (blk_cell hj 0).trans rfl
  clear hm hj
  unfold inB
  generalize x.f0 = f
  generalize x.f1 = t
  obtain ⟨q, hq⟩ : ∃ q, wrap64 (t + rest) = q := ⟨_, rfl⟩
  have hw : IntKind.i64.wrap (t + rest) = q := (i64_w _).trans hq
  rw [hq]
  clear hq
  replace cm := Lib.cell?_alloc_some (.cells #[.int .i64 f, .int .i64 t] 47) cm
  replace cj := Lib.cell?_alloc_some (.cells #[.int .i64 f, .int .i64 t] 47) cj
  by_cases d : f ≤ m
  · have d0 := decide_eq_true d
    rw [d0, Bool.true_and]
    go_enter Try.func76, Try.ntmps76
    go_wp2
    go_ret
    exact ⟨rfl, below_alloc (Below.refl _ _) _⟩
  · have d0 := decide_eq_false d
    rw [d0, Bool.false_and]
    go_enter Try.func76, Try.ntmps76
    go_wp2
    go_ret
    exact ⟨rfl, below_alloc (Below.refl _ _) _⟩
theorem blk_keep {W W' : World} {g : Nat} {o : Obj} (h : W.heap[g]? = some o) (hb : Below W.heap.size W W') : W'.heap[g]? = some o := (hb.block g (Array.getElem?_eq_some_iff.1 h).1).trans h
def punch_Crowd.f (a0_0 : Int) (l0_1 : List S47) (a1 : Int) : Option (List Int × Int) :=
  (punch_Check.f a0_0 l0_1).bind fun e => if e = 0 then (if l0_1.length ≤ 40 then some (crowdL a0_0 a1 l0_1, 0) else none) else some ([], e)
set_option maxHeartbeats 8000000 in
set_option maxRecDepth 100000 in
theorem punch_Crowd.calls (a0_0 : Int) (A0_1 : Option Addr) (c0_1 : Nat) (l0_1 : List S47) (a1 : Int) (r1 : List Int) (r2 : Int) (w : World) (hr0_1 : Kd.C k47 w A0_1 l0_1.length l0_1) (hc0_1 : l0_1.length ≤ c0_1) (h : punch_Crowd.f a0_0 l0_1 a1 = some (r1, r2)) :
  Calls Try.prog 16 #[.agg #[.int .i64 a0_0, .slice A0_1 l0_1.length c0_1], .int .i64 a1] w fun e w' => ∃ v, e = .returned (.tuple #[v, .int .i64 r2]) ∧ (Kd.int .i64).R 3 w' w.heap.size (fun _ => True) v r1 ∧ Below w.heap.size w w' := by
 have hu24 := Try.underlying24
 have hu22 := Try.underlying22
 have hu26 := Try.underlying26
 have hu47 := Try.underlying47
 unfold punch_Crowd.f at h
 obtain ⟨er, her, h⟩ := Option.bind_eq_some_iff.mp h
 have HR := zA hr0_1
 have HC := zA hc0_1
 obtain ⟨g1, hg1⟩ : ∃ g1, g1 = w.heap.size := ⟨_, rfl⟩
 have K20 := zA (punch_Check.calls a0_0 A0_1 c0_1 l0_1 er (w.alloc (.cells #[.int .i64 a0_0, .slice A0_1 l0_1.length c0_1] 24)) (Kd.C_below hr0_1 (below_alloc (Below.refl _ _) _)) hc0_1 her)
 clear hr0_1 her hc0_1
 go_enter Try.func16, Try.ntmps16
 have HH := zA h
 clear h
 go_wp2_with fail
 refine K20.out.mono ?_
 rintro e w1 ⟨rfl, hb⟩
 have BJ := zA (blk_keep (heap_alloc_new w (.cells #[.int .i64 a0_0, .slice A0_1 l0_1.length c0_1] 24)) hb)
 have HB := zA ((below_alloc (Below.refl w.heap.size w) (.cells #[.int .i64 a0_0, .slice A0_1 l0_1.length c0_1] 24)).trans (hb.mono (by simp)))
 rw [← hg1] at BJ
 rw [← hg1]
 have hj0 : w1.cell? ⟨g1, 0, none⟩ = some (.int .i64 a0_0) := (blk_cell BJ.out 0).trans rfl
 have hj1 : w1.cell? ⟨g1, 1, none⟩ = some (.slice A0_1 l0_1.length c0_1) := (blk_cell BJ.out 1).trans rfl
 clear K20 hb
 have HG1 := zA hg1
 clear hg1
 by_cases ce : er = 0
 ·
  subst ce
  have h := HH.out
  rw [if_pos rfl] at h
  split at h
  case isFalse => cases h
  rename_i hl
  injection h with h
  injection h with h1 h2
  subst h1 h2
  clear HH
  go_wp2_with fail
  refine (crowd49 a0_0 a1 A0_1 l0_1.length c0_1 w1).mono ?_
  rintro e w2 ⟨Bm, Bj, rfl, hm, hjj, q1, q2, hb2⟩
  have BM := zA hm
  have BJJ := zA hjj
  have BJ2 := zA (blk_keep BJ.out hb2)
  have hj2 : w2.cell? ⟨g1, 1, none⟩ = some (.slice A0_1 l0_1.length c0_1) := (blk_cell BJ2.out 1).trans rfl
  have HB2 := zA (HB.out.trans (hb2.mono HB.out.size))
  clear hm hjj q1 q2 hb2 hj0 hj1
  go_wp2_with fail
  go_loopg [8, 22] l0_1.length (fun kq v8 v22 w' => ∃ k : Nat, v22 = .int .i64 k ∧ k ≤ l0_1.length ∧ l0_1.length - k ≤ kq ∧ Aside0 ((Kd.int .i64).R 3 w' w.heap.size (fun b => b ≠ Bm) v8 (crowdTo a0_0 a1 l0_1 k)) ∧ Aside0 (w'.heap[Bm]? = some (.cells #[.int .i64 a1] 3 (0, 0))) ∧ Aside0 (w'.heap[Bj]? = some (.cells #[.int .i64 a0_0, .slice A0_1 l0_1.length c0_1] 24 (0, 0))) ∧ Aside0 (Below w.heap.size w w'))
  case atStart => exact ⟨0, rfl, Nat.zero_le _, by omega, ⟨Kd.R_nil _ _ _ _ _⟩, BM, BJJ, HB2⟩
  case round =>
   clear BM BJJ HB2
   obtain ⟨k, rfl, hk, hkx, HV, BM, BJJ, HB2⟩ := hrel
   by_cases q : k < l0_1.length
   ·
    have qz : (k : Int) < l0_1.length := by omega
    obtain ⟨ad, e, h0, h1⟩ := at_T47 HR.out (k : Int) (by omega) qz
    cases e
    replace h0 := (HB2.out.cell (World.block_lt_of_cell? w _ h0)).trans h0
    replace h1 := (HB2.out.cell (World.block_lt_of_cell? w _ h1)).trans h1
    rw [Int.toNat_natCast] at h0 h1
    have hs := crowdTo_succ a0_0 a1 l0_1 k
    have K76 := in76 a0_0 a1 (rd_T47 l0_1 (k : Int)) (some ad) l0_1.length c0_1 Bm Bj
    obtain ⟨fx, hfx⟩ : ∃ fx, fx = (rd_T47 l0_1 (k : Int)).f0 := ⟨_, rfl⟩
    obtain ⟨tx, htx⟩ : ∃ tx, tx = (rd_T47 l0_1 (k : Int)).f1 := ⟨_, rfl⟩
    obtain ⟨b, hb⟩ : ∃ b, b = inB a0_0 a1 (rd_T47 l0_1 (k : Int)) := ⟨_, rfl⟩
    rw [← hfx] at h0 K76
    rw [← htx] at h1 K76
    rw [← hb] at hs K76
    have HS := zA hs
    have KK := zA K76
    clear hs K76 hfx htx hb
    obtain ⟨W2, hW2⟩ : ∃ W2, W2 = wr.alloc (.cells #[.int .i64 fx, .int .i64 tx] 47) := ⟨_, rfl⟩
    have o0 : W2.cell? ⟨wr.heap.size, 0, none⟩ = some (.int .i64 fx) := by rw [hW2]; simp
    have o1 : W2.cell? ⟨wr.heap.size, 1, none⟩ = some (.int .i64 tx) := by rw [hW2]; simp
    have b2 : Below wr.heap.size wr W2 := by rw [hW2]; exact below_alloc (Below.refl _ _) _
    have BM2 := zA (blk_keep BM.out b2)
    have BJ3 := zA (blk_keep BJJ.out b2)
    have HB3 := zA (HB2.out.trans (b2.mono HB2.out.size))
    have HV2 := zA (Kd.R_below HV.out b2)
    have HW2 := zA hW2
    clear b2 hW2 BM BJJ HB2 HV
    go_wp2_with fail
    rw [← HW2.out]
    go_wp2_with fail
    refine (KK.out W2 BM2.out BJ3.out).mono ?_
    rintro e w3 ⟨rfl, hb3⟩
    have BM := zA (blk_keep BM2.out hb3)
    have BJJ := zA (blk_keep BJ3.out hb3)
    have HB := zA (HB3.out.trans (hb3.mono HB3.out.size))
    have HV := zA (Kd.R_below HV2.out hb3)
    have LC := zA (Nat.le_trans (crowdTo_len a0_0 a1 l0_1 k) (show k ≤ 40 by omega))
    have hwk : IntKind.i64.wrap ((k : Int) + 1) = ((k + 1 : Nat) : Int) := (i64_w _).trans (by unfold wrap64; omega)
    clear hb3 BM2 BJ3 HB3 HV2 h0 h1 KK
    cases b with
    | true =>
     have hs := HS.out
     rw [if_pos rfl] at hs
     obtain ⟨xs, hxs⟩ : ∃ xs, xs = crowdTo a0_0 a1 l0_1 k := ⟨_, rfl⟩
     rw [← hxs] at hs HV LC
     have HS2 := zA hs
     clear hs HS hxs
     go_wp2_with ((with_reducible refine gate_builtin (b := .append) (xs := #[.tmp 30, .tmp 32]) rfl ?_); at_builtin; refine Kd.R_append (Kd.int .i64) (w0 := w) w.heap.size rfl (.tmp 30) (.tmp 32) 26 3 (.int .i64 0) 8 rfl Try.underlying26 info3 rfl (by decide) (by omega) _ xs (k : Int) [.int .i64 (k : Int)] (fun b => b ≠ Bm) (fun _ => False) rfl rfl ?aP (fun _ hk => hk.elim) ?aF ?aO ?aB ?aS ?aL ?_; (case aP => exact rfl); (case aB => exact HB.out); (case aF => exact (fun j hj e => by have := (Array.getElem?_eq_some_iff.1 BM.out).1; omega)); (case aO => exact HV.out); (case aS => exact HB.out.size); (case aL => have := LC.out; omega); intro v4 w4 ho hb4 hg hat; rw [← HS2.out] at ho; have n0_ := zA (blk_grown (g := Bm) BM.out hg (fun e => HV.out.1 _ e.symm rfl)); have n1_ := zA (blk_grown (g := Bj) BJJ.out hg (Kd.R_ne HV.out BJJ.out (by decide))); have HB5 := zA hb4; have HV5 := zA ho; clear ho hb4 hg hat)
     go_roundg (l0_1.length - (k + 1))
     case measure => omega
     case rel => exact ⟨k + 1, by first | rfl | simp, by omega, Nat.le_refl _, HV5, n0_, n1_, HB5⟩
    | false =>
     have hs := HS.out
     rw [if_neg (by decide)] at hs
     have HS2 := zA hs
     clear hs HS
     go_wp2
     go_roundg (l0_1.length - (k + 1))
     case measure => omega
     case rel => exact ⟨k + 1, by first | rfl | simp, by omega, Nat.le_refl _, ⟨by rw [HS2.out]; exact HV.out⟩, BM, BJJ, HB⟩
   ·
    obtain rfl : k = l0_1.length := by omega
    go_wp2
    refine bodyPost_ret (results_tmp2 rfl _ _ _) rfl ?_
    exact ⟨_, rfl, Kd.R_mono HV.out (fun _ _ => trivial), HB2.out⟩
 ·
  have h := HH.out
  rw [if_neg ce] at h
  injection h with h
  injection h with h1 h2
  subst h1 h2
  go_wp2
  refine bodyPost_ret (results_tmp2 rfl _ _ _) rfl ?_
  exact ⟨_, rfl, Kd.R_nil _ _ _ _ _, HB.out⟩
end Go.Proofs.Ytegffliopblajaa.P
end
section
namespace Go.Proofs.Ytegffliopblajaa.P
open Go.Shelf Go.RowKit Go.Lib Go.Sort Go.Stb Go.Proofs Go.Proofs.YtegffliopblajaaW.PrintWords Go.Proofs.YtegffliopblajaaW.PrintLast Go.Proofs.YtegffliopblajaaW.PrintMore
set_option linter.unusedVariables false
set_option linter.unusedSimpArgs false
instance inh47 : Inhabited S47 := ⟨⟨0, 0⟩⟩
theorem flat_get : ∀ (l : List S47) (t : Nat), t < l.length * 2 → (l.flatMap enc2)[t]? = some ((enc2 (l.toArray[t / 2]!))[t % 2]!)
  | [], t, h => by simp at h
  | x :: l, 0, h => by simp [enc2]
  | x :: l, 1, h => by simp [enc2]
  | x :: l, t + 2, h => by
    have ih := flat_get l t (by simp at h; omega)
    have e : (x :: l).flatMap enc2 = Value.int .i64 x.f0 :: Value.int .i64 x.f1 :: l.flatMap enc2 := by simp [enc2]
    rw [e, List.getElem?_cons_succ, List.getElem?_cons_succ, ih, show (t + 2) / 2 = t / 2 + 1 by omega, show (t + 2) % 2 = t % 2 by omega]
    have hl : t / 2 < l.length := by simp at h; omega
    have e2 : (x :: l).toArray[t / 2 + 1]! = l.toArray[t / 2]! := by
      rw [getElem!_pos _ _ (by simpa using hl), getElem!_pos _ _ (by simpa using hl)]; simp
    rw [e2]
theorem holds_of_own {W : World} {base : Nat} {g cap : Nat} {l : List S47} (h : W.ownsRow base 47 2 (.slice (some ⟨g, 0, none⟩) l.length cap) l.length (l.flatMap enc2)) (h0 : 0 < l.length) : HoldsK enc2 2 W g 0 l.toArray ∧ g < W.heap.size ∧ base ≤ g := by
  rcases h.2 with ⟨e, _⟩ | ⟨g', cap', cur, e, hb, hg, hk, hm, hs, ht⟩
  · cases e
  · injection e with e1 e2 e3
    injection e1 with e1
    injection e1 with e1
    subst e1
    refine ⟨fun t ht2 => ?_, (Array.getElem?_eq_some_iff.1 hg).1, hb⟩
    rw [size_flatK] at ht2
    rw [get_flatK _ _ _ _ ht2]
    have ht3 : t < l.length * 2 := by simpa using ht2
    have := flat_get l t ht3
    rw [← ht, List.getElem?_take_of_lt ht3] at this
    rw [Nat.zero_add]
    refine ⟨(blk_cell hg t).trans ?_, blk_frozen hg t⟩
    rw [← Array.getElem?_toList]
    exact this
theorem addr_at (b n : Nat) : (⟨b, 0, none⟩ : Addr).add n = ⟨b, 0 + n, none⟩ := by
  unfold Addr.add
  by_cases h : n = 0
  · subst h; rfl
  · rw [if_neg h]
def cf47 (x y : S47) : Int := cmpI x.f0 y.f0
theorem cf47_swo : SWO (ltOf cf47) where
  irrefl x := by unfold ltOf cf47; rw [cmpI_lt]; exact decide_eq_false (by omega)
  trans x y z h1 h2 := by
    unfold ltOf cf47 at *
    rw [cmpI_lt] at *
    have a := of_decide_eq_true h1
    have b := of_decide_eq_true h2
    exact decide_eq_true (by omega)
  ntrans x y z h1 h2 := by
    unfold ltOf cf47 at *
    rw [cmpI_lt] at *
    have a := of_decide_eq_false h1
    have b := of_decide_eq_false h2
    exact decide_eq_false (by omega)
set_option maxHeartbeats 4000000 in
set_option maxRecDepth 100000 in
theorem sort83 (blk cap : Nat) (l : List S47) (w : World) (h0 : 0 < l.length) (hl : l.length ≤ 40) (hH : HoldsK enc2 2 w blk 0 l.toArray) (hlt : blk < w.heap.size) :
    Calls Try.prog 83 #[.slice (some ⟨blk, 0, none⟩) l.length cap, .func (.func 57) #[] #[]] w fun e w' => e = .returned (.tuple #[]) ∧
      ∃ d : List S47, d.Perm l ∧ d.Pairwise (fun x y => x.f0 ≤ y.f0) ∧ Kd.C k47 w' (some ⟨blk, 0, none⟩) l.length d ∧ ∀ base, base ≤ blk → Below base w w' := by
  have hc : CmpLays Try.prog 57 #[] enc2 2 cf47 blk 0 l.toArray.size w := fun m os dk hdk x y => begins57 x.f0 x.f1 y.f0 y.f1 _
  have h := AnyQ.slices_SortFunc Try.lsrt 2 Try.isAgg47 Try.sizeOf47 enc2 (fun _ => rfl) (fun x v hv => by simp [enc2] at hv; rcases hv with rfl | rfl <;> rfl) cf47 cf47_swo 57 #[] blk 0 cap l.toArray w
    (enters_of Try.func57 (by kernel_rfl) rfl) hc hH hlt (by simp; omega)
  rw [List.size_toArray] at h
  refine h.mono ?_
  rintro e w' ⟨rfl, d', n, os, hp, hs, rfl⟩
  have hz : d'.size = l.length := by have := hp.1; simpa using this
  have S : SW (id : Value → Value) w blk 0 (flatK enc2 2 d') (sortWorldK enc2 2 w blk 0 n d' os) := ⟨n, os, rfl⟩
  have hperm : d'.toList.Perm l := by
    have := hp.2.2
    have e1 : d'.extract 0 l.length = d' := by rw [← hz]; simp
    have e2 : l.toArray.extract 0 l.length = l.toArray := by simp
    rw [e1, e2] at this
    simpa using this
  have hH' : HoldsK enc2 2 (sortWorldK enc2 2 w blk 0 n d' os) blk 0 d' :=
    holdsK_grow enc2 2 _ os blk 0 d' (by simpa [putRowK] using hlt) (holdsK_putRowK enc2 2 _ blk 0 l.toArray d' (holdsK_ahead enc2 2 w n blk 0 _ hH) (by simpa using hz))
  refine ⟨rfl, d'.toList, hperm, ?_, ?_, fun base hb => sw_below S hb (by omega)⟩
  · rw [List.pairwise_iff_getElem]
    intro i j hi hj hij
    have := hs i j (Nat.zero_le _) hij (by simp at hj; omega)
    unfold ltOf cf47 at this
    rw [cmpI_lt, getElem!_pos d' j (by simpa using hj), getElem!_pos d' i (by simpa using hi)] at this
    have := of_decide_eq_false this
    simp only [Array.getElem_toList]
    omega
  · refine ⟨by simpa using hz, by omega, fun _ => ⟨⟨blk, 0, none⟩, rfl, fun j p hp => ?_⟩⟩
    obtain ⟨hj, e⟩ := List.getElem?_eq_some_iff.1 hp
    have hj2 : j < d'.size := by simpa using hj
    refine ⟨[.int .i64 p.f0, .int .i64 p.f1], rfl, k47_mk _ p, fun i u hu => ?_⟩
    have hi : i < 2 := by
      have := (List.getElem?_eq_some_iff.1 hu).1
      simpa using this
    have := (hH'.cell hj2 hi).1
    rw [getElem!_pos d' j hj2] at this
    rw [show (d'[j]'hj2) = p by rw [← e]; simp] at this
    refine Eq.trans ?_ (this.trans ?_)
    · rw [show k47.sz = 2 from by kernel_rfl]
      have e3 := addr_at blk (j * 2 + i)
      rw [e3, show 0 + (j * 2 + i) = 0 + j * 2 + i by omega]
    · rw [← hu]
      match i, hi with
      | 0, _ => rfl
      | 1, _ => rfl
set_option maxHeartbeats 4000000 in
set_option maxRecDepth 100000 in
theorem ins96_none (v f : Value) (w : World) : Calls Try.prog 96 #[v, .int .i64 0, .int .i64 0, f] w fun e w' => e = .returned (.tuple #[]) ∧ w' = w := by
  go_enter Try.func96, Try.ntmps96
  go_wp2
  refine wp_loop_rounds 1 ?_
  rw [rounds_succ]
  go_wp2
  go_end0
  exact ⟨rfl, rfl⟩
set_option maxHeartbeats 4000000 in
set_option maxRecDepth 100000 in
theorem pdq92_none (p : Option Addr) (cap : Nat) (lim : Int) (f : Value) (w : World) : Calls Try.prog 92 #[.slice p 0 cap, .int .i64 0, .int .i64 0, .int .i64 lim, f] w fun e w' => e = .returned (.tuple #[]) ∧ w' = w := by
  go_enter Try.func92, Try.ntmps92
  go_wp2
  refine wp_loop_rounds 1 ?_
  rw [rounds_succ]
  go_wp2_with fail
  refine (ins96_none _ f w).mono ?_
  rintro e w1 ⟨rfl, rfl⟩
  go_wp2
  (try simp only [Exit.inBlock, Exit.then])
  refine bodyPost_ret (results_none rfl _ _ _) rfl ?_
  exact ⟨rfl, rfl⟩
set_option maxHeartbeats 4000000 in
set_option maxRecDepth 100000 in
theorem sort83_none (p : Option Addr) (cap : Nat) (f : Value) (w : World) : Calls Try.prog 83 #[.slice p 0 cap, f] w fun e w' => e = .returned (.tuple #[]) ∧ w' = w := by
  have hl : ∀ W, Calls Try.prog 93 #[.int .u64 0] W fun e w' => e = .returned (.int .i64 (Lib.bitLen 0 : Nat)) ∧ w' = W := fun W => by
    have h := Any.bits_Len (SlLaysF0.n15.bits (P := Try.prog) (ρ := Try.lsrt_ren) { Try.lsrt with }) 0 W (by omega) (by omega)
    exact h
  go_enter Try.func83, Try.ntmps83
  go_wp2_with (first | (go_at_call 93; refine (hl _).mono ?_; rintro e w' ⟨rfl, rfl⟩) | (go_at_call 92; refine (pdq92_none _ _ _ _ _).mono ?_; rintro e w' ⟨rfl, rfl⟩))
  go_end0
  exact ⟨rfl, rfl⟩
set_option maxHeartbeats 4000000 in
set_option maxRecDepth 100000 in
theorem collect82 (Bs : Nat) (A : Option Addr) (c : Nat) (l : List S47) (w : World) (hl : l.length ≤ 40) (hC : Kd.C k47 w A l.length l) (cs : w.cell? ⟨Bs, 0, none⟩ = some (.slice A l.length c)) :
    Calls Try.prog 82 #[.func (.func 84) #[] #[.pointer (some ⟨Bs, 0, none⟩)]] w fun e w' => ∃ v, e = .returned v ∧ w'.ownsRow w.heap.size 47 2 v l.length (l.flatMap enc2) ∧ Below w.heap.size w w' := by
  have H := zA (append91 Bs A c l w hl hC cs)
  clear hC cs
  go_enter Try.func82, Try.ntmps82
  go_wp2_with fail
  refine H.out.mono ?_
  rintro e w' ⟨v, rfl, ho, hb⟩
  go_wp2
  go_ret
  exact ⟨v, rfl, ho, hb⟩
set_option maxHeartbeats 4000000 in
set_option maxRecDepth 100000 in
theorem sorted66 (Bs : Nat) (A : Option Addr) (c : Nat) (l : List S47) (w : World) (hl : l.length ≤ 40) (hC : Kd.C k47 w A l.length l) (cs : w.cell? ⟨Bs, 0, none⟩ = some (.slice A l.length c)) :
    Calls Try.prog 66 #[.func (.func 84) #[] #[.pointer (some ⟨Bs, 0, none⟩)], .func (.func 57) #[] #[]] w fun e w' => ∃ (A2 : Option Addr) (c2 : Nat) (d : List S47), e = .returned (.slice A2 l.length c2) ∧
      d.Perm l ∧ d.Pairwise (fun x y => x.f0 ≤ y.f0) ∧ Kd.C k47 w' A2 l.length d ∧ Below w.heap.size w w' := by
  have H := zA (collect82 Bs A c l w hl hC cs)
  clear hC cs
  go_enter Try.func66, Try.ntmps66
  go_wp2_with fail
  refine H.out.mono ?_
  rintro e w1 ⟨v, rfl, ho, hb⟩
  have HB := zA hb
  clear hb H
  by_cases h0 : 0 < l.length
  · obtain ⟨g, cap, rfl⟩ : ∃ g cap, v = .slice (some ⟨g, 0, none⟩) l.length cap := by
      rcases ho.2 with ⟨_, e⟩ | ⟨g, cap, cur, e, _⟩
      · omega
      · exact ⟨g, cap, e⟩
    obtain ⟨hH, hg1, hg2⟩ := holds_of_own ho h0
    have K := zA (sort83 g cap l w1 h0 hl hH hg1)
    clear ho hH
    go_wp2_with fail
    refine K.out.mono ?_
    rintro e w2 ⟨rfl, d, hp, hs, hC2, hb2⟩
    have HP := zA hp
    have HS := zA hs
    have HC2 := zA hC2
    have HB2 := zA (HB.out.trans (hb2 _ hg2))
    clear hp hs hC2 hb2 K
    go_wp2
    go_ret
    exact ⟨_, _, d, rfl, HP.out, HS.out, HC2.out, HB2.out⟩
  · obtain rfl : l = [] := List.eq_nil_of_length_eq_zero (by omega)
    obtain ⟨A2, c2, rfl⟩ : ∃ A2 c2, v = .slice A2 0 c2 := by
      rcases ho.2 with ⟨e, _⟩ | ⟨g, cap, cur, e, _⟩
      · exact ⟨_, _, e⟩
      · exact ⟨_, _, e⟩
    clear ho
    go_wp2_with fail
    refine (sort83_none A2 c2 _ w1).mono ?_
    rintro e w2 ⟨rfl, rfl⟩
    go_wp2
    go_ret
    exact ⟨_, _, [], rfl, List.Perm.refl _, List.Pairwise.nil, ⟨rfl, by omega, fun h => absurd h (by omega)⟩, HB.out⟩
end Go.Proofs.Ytegffliopblajaa.P
end
section
namespace Go.Proofs.Ytegffliopblajaa.P
open Go.RowKit Go.Proofs.YtegffliopblajaaW.PrintWords Go.Proofs.YtegffliopblajaaW.PrintLast Go.Proofs.YtegffliopblajaaW.PrintMore
set_option linter.unusedVariables false
set_option linter.unusedSimpArgs false
attribute [local go_sem] Oper.semAt_some
def cntAt (rest : Int) (l : List S47) (f : Int) : Int := ((crowdL rest f l).length : Nat)
def mostStep (rest : Int) (l : List S47) (s : Int × Int) (f : Int) : Int × Int := if cntAt rest l f > s.2 then (f, cntAt rest l f) else s
def mostOf (rest : Int) (l : List S47) (fs : List Int) : Int × Int := fs.foldl (mostStep rest l) (0, 0)
def sortI (fs : List Int) : List Int := fs.mergeSort (fun a b => decide (a ≤ b))
def mostL (rest : Int) (l : List S47) : Int × Int := mostOf rest l (sortI (l.map S47.f0))
theorem sortI_uniq {a b : List Int} (hp : a.Perm b) (hs : a.Pairwise (· ≤ ·)) : a = sortI b := by
  have h1 : (sortI b).Pairwise (fun x y => decide (x ≤ y) = true) := List.pairwise_mergeSort (fun a b c h1 h2 => by simp at *; omega) (fun a b => by simp; omega) b
  have h2 : (sortI b).Pairwise (· ≤ ·) := h1.imp (fun h => by simpa using h)
  exact (hp.trans (List.mergeSort_perm b _).symm).eq_of_pairwise (fun x y _ _ hxy hyx => by omega) hs h2
theorem most_of_sorted {rest : Int} {l d : List S47} (hp : d.Perm l) (hs : d.Pairwise (fun x y => x.f0 ≤ y.f0)) : mostOf rest l (d.map S47.f0) = mostL rest l := by
  unfold mostL
  rw [← sortI_uniq (hp.map S47.f0) (List.pairwise_map.2 hs)]
theorem most_succ (rest : Int) (l d : List S47) {k : Nat} (h : k < d.length) : mostOf rest l ((d.take (k + 1)).map S47.f0) = mostStep rest l (mostOf rest l ((d.take k).map S47.f0)) (rd_T47 d (k : Int)).f0 := by
  unfold mostOf
  rw [take_rd h, List.map_append, List.foldl_append]
  rfl
theorem most_bound (rest : Int) (l : List S47) : ∀ (fs : List Int) (s : Int × Int), 0 ≤ s.2 → s.2 ≤ (l.length : Int) → 0 ≤ (fs.foldl (mostStep rest l) s).2 ∧ (fs.foldl (mostStep rest l) s).2 ≤ (l.length : Int)
  | [], s, h0, h1 => ⟨h0, h1⟩
  | f :: fs, s, h0, h1 => by
    have hc := crowdTo_len rest f l l.length
    refine most_bound rest l fs _ ?_ ?_ <;> (unfold mostStep; split <;> (try unfold cntAt crowdL) <;> omega)
def punch_Prove.f (a0_0 : Int) (l0_1 : List S47) : Option (Int × Int) :=
  (punch_Check.f a0_0 l0_1).bind fun e => if e = 0 then (if l0_1.length ≤ 40 then (if (mostL a0_0 l0_1).2 = 0 then some (0, 8) else some ((mostL a0_0 l0_1).1, 0)) else none) else some (0, e)
set_option maxHeartbeats 8000000 in
set_option maxRecDepth 100000 in
theorem punch_Prove.calls (a0_0 : Int) (A0_1 : Option Addr) (c0_1 : Nat) (l0_1 : List S47) (r1 r2 : Int) (w : World) (hr0_1 : Kd.C k47 w A0_1 l0_1.length l0_1) (hc0_1 : l0_1.length ≤ c0_1) (h : punch_Prove.f a0_0 l0_1 = some (r1, r2)) :
  Calls Try.prog 24 #[.agg #[.int .i64 a0_0, .slice A0_1 l0_1.length c0_1]] w fun e w' => e = .returned (.tuple #[.int .i64 r1, .int .i64 r2]) ∧ Below w.heap.size w w' := by
 have hu24 := Try.underlying24
 have hu22 := Try.underlying22
 have hu47 := Try.underlying47
 unfold punch_Prove.f at h
 obtain ⟨er, her, h⟩ := Option.bind_eq_some_iff.mp h
 have HR := zA hr0_1
 have HC := zA hc0_1
 obtain ⟨g1, hg1⟩ : ∃ g1, g1 = w.heap.size := ⟨_, rfl⟩
 have K20 := zA (punch_Check.calls a0_0 A0_1 c0_1 l0_1 er (w.alloc (.cells #[.int .i64 a0_0, .slice A0_1 l0_1.length c0_1] 24)) (Kd.C_below hr0_1 (below_alloc (Below.refl _ _) _)) hc0_1 her)
 clear hr0_1 her hc0_1
 go_enter Try.func24, Try.ntmps24
 have HH := zA h
 clear h
 go_wp2_with fail
 refine K20.out.mono ?_
 rintro e w1 ⟨rfl, hb⟩
 have BJ := zA (blk_keep (heap_alloc_new w (.cells #[.int .i64 a0_0, .slice A0_1 l0_1.length c0_1] 24)) hb)
 have HB := zA ((below_alloc (Below.refl w.heap.size w) (.cells #[.int .i64 a0_0, .slice A0_1 l0_1.length c0_1] 24)).trans (hb.mono (by simp)))
 rw [← hg1] at BJ
 rw [← hg1]
 have hj0 : w1.cell? ⟨g1, 0, none⟩ = some (.int .i64 a0_0) := (blk_cell BJ.out 0).trans rfl
 have hj1 : w1.cell? ⟨g1, 1, none⟩ = some (.slice A0_1 l0_1.length c0_1) := (blk_cell BJ.out 1).trans rfl
 clear K20 hb
 have HG1 := zA hg1
 clear hg1
 by_cases ce : er = 0
 ·
  subst ce
  have h := HH.out
  rw [if_pos rfl] at h
  split at h
  case isFalse => cases h
  rename_i hl
  have HH2 := zA h
  clear HH h
  go_wp2_with fail
  refine (vals67 A0_1 l0_1.length c0_1 w1).mono ?_
  rintro e w2 ⟨rfl, hw2⟩
  have b2 : Below w1.heap.size w1 w2 := by rw [hw2]; exact below_alloc (Below.refl _ _) _
  have cs : w2.cell? ⟨w1.heap.size, 0, none⟩ = some (.slice A0_1 l0_1.length c0_1) := by rw [hw2]; exact cell_new_at _ _ _ _ rfl
  have HB2 := zA (HB.out.trans (b2.mono HB.out.size))
  have BJ2 := zA (blk_keep BJ.out b2)
  have K66 := zA (sorted66 w1.heap.size A0_1 c0_1 l0_1 w2 hl (Kd.C_below HR.out HB2.out) cs)
  clear hw2 b2 cs hj0 hj1
  go_wp2_with fail
  refine K66.out.mono ?_
  rintro e w3 ⟨A2, c2, d, rfl, hp, hs, hC2, hb3⟩
  have hdl : d.length = l0_1.length := hp.length_eq
  have HM := zA (most_of_sorted (rest := a0_0) hp hs)
  have HD := zA hC2
  have HB3 := zA (HB2.out.trans (hb3.mono HB2.out.size))
  have BJ3 := zA (blk_keep BJ2.out hb3)
  clear hp hs hC2 hb3 K66
  go_wp2_with fail
  go_loopg [2, 5, 22] l0_1.length (fun kq v2 v5 v22 w' => ∃ k : Nat, v22 = .int .i64 k ∧ k ≤ l0_1.length ∧ l0_1.length - k ≤ kq ∧ v2 = .int .i64 (mostOf a0_0 l0_1 ((d.take k).map S47.f0)).1 ∧ v5 = .int .i64 (mostOf a0_0 l0_1 ((d.take k).map S47.f0)).2 ∧ Aside0 (Below w3.heap.size w3 w'))
  case atStart => exact ⟨0, rfl, Nat.zero_le _, by omega, by simp [mostOf], by simp [mostOf], ⟨Below.refl _ _⟩⟩
  case round =>
   obtain ⟨k, rfl, hk, hkx, rfl, rfl, HBr⟩ := hrel
   by_cases q : k < l0_1.length
   ·
    have qz : (k : Int) < l0_1.length := by omega
    obtain ⟨ad, e, h0, h1⟩ := at_T47 HD.out (k : Int) (by omega) qz
    subst e
    replace h0 := (HBr.out.cell (World.block_lt_of_cell? w3 _ h0)).trans h0
    replace h1 := (HBr.out.cell (World.block_lt_of_cell? w3 _ h1)).trans h1
    rw [Int.toNat_natCast] at h0 h1
    have hms := most_succ a0_0 l0_1 d (k := k) (by omega)
    have hmb := most_bound a0_0 l0_1 ((d.take k).map S47.f0) (0, 0) (by simp) (by simp)
    obtain ⟨fx, hfx⟩ : ∃ fx, fx = (rd_T47 d (k : Int)).f0 := ⟨_, rfl⟩
    obtain ⟨tx, htx⟩ : ∃ tx, tx = (rd_T47 d (k : Int)).f1 := ⟨_, rfl⟩
    rw [← hfx] at h0 hms
    rw [← htx] at h1
    clear hfx htx
    change 0 ≤ (mostOf a0_0 l0_1 ((d.take k).map S47.f0)).2 ∧ _ at hmb
    obtain ⟨mm, hmm⟩ : ∃ mm, mm = mostOf a0_0 l0_1 ((d.take k).map S47.f0) := ⟨_, rfl⟩
    rw [← hmm] at hms hmb ⊢
    clear hmm
    have HMS := zA hms
    have HMB := zA hmb
    clear hms hmb
    obtain ⟨W4, hW4⟩ : ∃ W4, W4 = wr.alloc (.cells #[.int .i64 fx, .int .i64 tx] 47) := ⟨_, rfl⟩
    have o4 : W4.heap[wr.heap.size]? = some (.cells #[.int .i64 fx, .int .i64 tx] 47 (0, 0)) := by rw [hW4]; exact heap_alloc_new _ _
    have b4 : Below wr.heap.size wr W4 := by rw [hW4]; exact below_alloc (Below.refl _ _) _
    have O4 := zA o4
    have HB4 := zA (HBr.out.trans (b4.mono HBr.out.size))
    have BJ4 := zA (blk_keep BJ3.out HB4.out)
    have o40 : W4.cell? ⟨wr.heap.size, 0, none⟩ = some (.int .i64 fx) := (blk_cell O4.out 0).trans rfl
    have j40 : W4.cell? ⟨g1, 0, none⟩ = some (.int .i64 a0_0) := (blk_cell BJ4.out 0).trans rfl
    have j41 : W4.cell? ⟨g1, 1, none⟩ = some (.slice A0_1 l0_1.length c0_1) := (blk_cell BJ4.out 1).trans rfl
    rw [hW4] at o40 j40 j41
    have HW4 := zA hW4
    clear o4 b4 hW4
    go_wp2_with fail
    rw [← HW4.out]
    refine (crowd49 a0_0 fx A0_1 l0_1.length c0_1 W4).mono ?_
    rintro e w5 ⟨Bm, Bj, rfl, hm, hjj, q1, q2, hb5⟩
    have BM := zA hm
    have BJJ := zA hjj
    have HB5 := zA (HB4.out.trans (hb5.mono HB4.out.size))
    have O5 := zA (blk_keep O4.out hb5)
    have BJ5 := zA (blk_keep BJ4.out hb5)
    have j51 : w5.cell? ⟨g1, 1, none⟩ = some (.slice A0_1 l0_1.length c0_1) := (blk_cell BJ5.out 1).trans rfl
    clear hm hjj q1 q2 hb5 o40 j40 j41 h0 h1
    obtain ⟨gx, hgx⟩ : ∃ gx, gx = wr.heap.size := ⟨_, rfl⟩
    rw [← hgx] at O5 ⊢
    clear hgx O4 HW4
    go_wp2_with fail
    go_loopg [8, 33] l0_1.length (fun kq v8 v33 w' => ∃ m : Nat, v33 = .int .i64 m ∧ m ≤ l0_1.length ∧ l0_1.length - m ≤ kq ∧ v8 = .int .i64 ((crowdTo a0_0 fx l0_1 m).length : Nat) ∧ Aside0 (Below w5.heap.size w5 w'))
    case atStart => exact ⟨0, rfl, Nat.zero_le _, by omega, by simp [crowdTo], ⟨Below.refl _ _⟩⟩
    case round =>
     obtain ⟨m, rfl, hm, hmx, rfl, HBm⟩ := hrel
     have BM6 := zA (blk_keep BM.out HBm.out)
     have BJ6 := zA (blk_keep BJJ.out HBm.out)
     by_cases q2 : m < l0_1.length
     ·
      have q2z : (m : Int) < l0_1.length := by omega
      obtain ⟨ad2, e, h0, h1⟩ := at_T47 HR.out (m : Int) (by omega) q2z
      subst e
      have hbw : Below w.heap.size w wr := (HB3.out.trans (HB5.out.mono HB3.out.size)).trans (HBm.out.mono (HB3.out.trans (HB5.out.mono HB3.out.size)).size)
      replace h0 := (hbw.cell (World.block_lt_of_cell? w _ h0)).trans h0
      replace h1 := (hbw.cell (World.block_lt_of_cell? w _ h1)).trans h1
      rw [Int.toNat_natCast] at h0 h1
      clear hbw
      have hs := crowdTo_succ a0_0 fx l0_1 m
      have hlen := crowdTo_len a0_0 fx l0_1 m
      have K76 := in76 a0_0 fx (rd_T47 l0_1 (m : Int)) (some ad2) l0_1.length c0_1 Bm Bj
      obtain ⟨fy, hfy⟩ : ∃ fx, fx = (rd_T47 l0_1 (m : Int)).f0 := ⟨_, rfl⟩
      obtain ⟨ty, hty⟩ : ∃ tx, tx = (rd_T47 l0_1 (m : Int)).f1 := ⟨_, rfl⟩
      obtain ⟨b, hb⟩ : ∃ b, b = inB a0_0 fx (rd_T47 l0_1 (m : Int)) := ⟨_, rfl⟩
      rw [← hfy] at h0 K76
      rw [← hty] at h1 K76
      rw [← hb] at hs K76
      obtain ⟨cn, hcn⟩ : ∃ cn, cn = (crowdTo a0_0 fx l0_1 m).length := ⟨_, rfl⟩
      have hs2 : (crowdTo a0_0 fx l0_1 (m + 1)).length = if b = true then cn + 1 else cn := by rw [hs, hcn]; split <;> simp
      rw [← hcn] at hlen ⊢
      have HS := zA hs2
      have HL := zA hlen
      obtain ⟨W6, hW6⟩ : ∃ W6, W6 = wr.alloc (.cells #[.int .i64 fy, .int .i64 ty] 47) := ⟨_, rfl⟩
      have b6 : Below wr.heap.size wr W6 := by rw [hW6]; exact below_alloc (Below.refl _ _) _
      have o60 : W6.cell? ⟨wr.heap.size, 0, none⟩ = some (.int .i64 fy) := by rw [hW6]; simp
      have o61 : W6.cell? ⟨wr.heap.size, 1, none⟩ = some (.int .i64 ty) := by rw [hW6]; simp
      have KK := zA (K76 W6 (blk_keep BM6.out b6) (blk_keep BJ6.out b6))
      have HB6 := zA (HBm.out.trans (b6.mono HBm.out.size))
      have HW6 := zA hW6
      clear hs hs2 hcn hlen K76 hfy hty hb b6 hW6
      go_wp2_with fail
      rw [← HW6.out]
      go_wp2_with fail
      refine KK.out.mono ?_
      rintro e w7 ⟨rfl, hb7⟩
      have HB7 := zA (HB6.out.trans (hb7.mono HB6.out.size))
      have hwk : IntKind.i64.wrap ((m : Int) + 1) = ((m + 1 : Nat) : Int) := (i64_w _).trans (by unfold wrap64; omega)
      have hwc : IntKind.i64.wrap ((cn : Int) + 1) = ((cn + 1 : Nat) : Int) := (i64_w _).trans (by have := HL.out; unfold wrap64; omega)
      clear hb7 h0 h1 KK o60 o61 HB6 HW6
      cases b with
      | true =>
       have hs := HS.out
       rw [if_pos rfl] at hs
       have HS2 := zA hs
       clear hs HS
       go_wp2
       go_roundg (l0_1.length - (m + 1))
       case measure => omega
       case rel => exact ⟨m + 1, by first | rfl | simp, by omega, Nat.le_refl _, by rw [HS2.out]; first | done | rfl | (simp; done), HB7⟩
      | false =>
       have hs := HS.out
       rw [if_neg (by decide)] at hs
       have HS2 := zA hs
       clear hs HS
       go_wp2
       go_roundg (l0_1.length - (m + 1))
       case measure => omega
       case rel => exact ⟨m + 1, by first | rfl | simp, by omega, Nat.le_refl _, by rw [HS2.out]; first | done | rfl | (simp; done), HB7⟩
     ·
      obtain rfl : m = l0_1.length := by omega
      have HCN : Aside0 (cntAt a0_0 l0_1 fx = ((crowdTo a0_0 fx l0_1 l0_1.length).length : Nat)) := ⟨rfl⟩
      have hms := HMS.out
      unfold mostStep at hms
      rw [HCN.out] at hms
      obtain ⟨cn, hcn⟩ : ∃ cn, cn = (crowdTo a0_0 fx l0_1 l0_1.length).length := ⟨_, rfl⟩
      rw [← hcn] at hms ⊢
      clear hcn HCN HMS
      have HB8 := zA (HB5.out.trans (HBm.out.mono HB5.out.size))
      have O8 := zA (blk_keep O5.out HBm.out)
      have o8 : wr.cell? ⟨gx, 0, none⟩ = some (.int .i64 fx) := (blk_cell O8.out 0).trans rfl
      have hwk : IntKind.i64.wrap ((k : Int) + 1) = ((k + 1 : Nat) : Int) := (i64_w _).trans (by unfold wrap64; omega)
      by_cases c : (cn : Int) > mm.2
      ·
       rw [if_pos c] at hms
       have HMS := zA hms
       clear hms
       go_wp2
       go_roundg (l0_1.length - (k + 1))
       case measure => omega
       case rel => exact ⟨k + 1, by first | rfl | simp, by omega, Nat.le_refl _, by rw [HMS.out], by rw [HMS.out], HB8⟩
      ·
       rw [if_neg c] at hms
       have HMS := zA hms
       clear hms
       go_wp2
       go_roundg (l0_1.length - (k + 1))
       case measure => omega
       case rel => exact ⟨k + 1, by first | rfl | simp, by omega, Nat.le_refl _, by rw [HMS.out], by rw [HMS.out], HB8⟩
   ·
    obtain rfl : k = l0_1.length := by omega
    rw [List.take_of_length_le (by omega), HM.out]
    have h := HH2.out
    have HB9 := zA (HB3.out.trans (HBr.out.mono HB3.out.size))
    obtain ⟨mm, hmm⟩ : ∃ mm, mm = mostL a0_0 l0_1 := ⟨_, rfl⟩
    rw [← hmm] at h ⊢
    clear hmm HM
    by_cases c : mm.2 = 0
    ·
     rw [if_pos c] at h
     injection h with h
     injection h with h1 h2
     subst h1 h2
     go_wp2
     refine bodyPost_ret (results_tmp2 rfl _ _ _) rfl ?_
     exact ⟨rfl, HB9.out⟩
    ·
     rw [if_neg c] at h
     injection h with h
     injection h with h1 h2
     subst h1 h2
     go_wp2
     refine bodyPost_ret (results_tmp2 rfl _ _ _) rfl ?_
     exact ⟨rfl, HB9.out⟩
 ·
  have h := HH.out
  rw [if_neg ce] at h
  injection h with h
  injection h with h1 h2
  subst h1 h2
  go_wp2
  refine bodyPost_ret (results_tmp2 rfl _ _ _) rfl ?_
  exact ⟨rfl, HB.out⟩
end Go.Proofs.Ytegffliopblajaa.P
end
section
namespace Go.Proofs.Ytegffliopblajaa.P
open Go.RowKit Go.Shelf Go.Proofs.YtegffliopblajaaW.PrintWords Go.Proofs.YtegffliopblajaaW.PrintLast Go.Proofs.YtegffliopblajaaW.PrintMore
set_option linter.unusedVariables false
set_option linter.unusedSimpArgs false
attribute [local go_sem] Oper.semAt_some
def idxI (P : Int → Bool) (l : List Int) : Int := match l.findIdx? P with | some i => i | none => -1
theorem idxI_at {P : Int → Bool} {l : List Int} {i : Int} (h0 : 0 ≤ i) (h1 : i < l.length) (h : ∀ j : Nat, (j : Int) < i → P (rd l j) = false) (hp : P (rd l i) = true) : idxI P l = i := by
  have e : l.findIdx? P = some i.toNat := by
    rw [List.findIdx?_eq_some_iff_getElem]
    have g : ∀ j : Nat, (hj : j < l.length) → rd l (j : Int) = l[j] := by
      intro j hj
      unfold rd
      rw [List.getD_eq_getElem?_getD, Int.toNat_natCast, List.getElem?_eq_getElem hj]; rfl
    refine ⟨by omega, ?_, ?_⟩
    · rw [← g, show ((i.toNat : Nat) : Int) = i by omega]; exact hp
    · intro j hj
      rw [← g j (by omega), h j (by omega)]; simp
  unfold idxI
  rw [e]
  show ((i.toNat : Nat) : Int) = i
  omega
theorem idxI_none {P : Int → Bool} {l : List Int} (h : ∀ j : Nat, j < l.length → P (rd l j) = false) : idxI P l = -1 := by
  have e : l.findIdx? P = none := by
    rw [List.findIdx?_eq_none_iff]
    intro x hx
    obtain ⟨j, hj, rfl⟩ := List.mem_iff_getElem.1 hx
    have := h j hj
    unfold rd at this
    rw [List.getD_eq_getElem?_getD, Int.toNat_natCast, List.getElem?_eq_getElem hj] at this
    exact this
  unfold idxI
  rw [e]
theorem idxI_any {P : Int → Bool} {l : List Int} : decide (0 ≤ idxI P l) = l.any P := by
  unfold idxI
  cases h : l.findIdx? P with
  | some i =>
    rw [List.findIdx?_eq_some_iff_getElem] at h
    obtain ⟨hi, hp, _⟩ := h
    have : l.any P = true := List.any_eq_true.2 ⟨l[i], List.getElem_mem _, hp⟩
    rw [this]
    simp
  | none =>
    rw [List.findIdx?_eq_none_iff] at h
    have : l.any P = false := by
      rw [List.any_eq_false]
      intro x hx
      simp [h x hx]
    rw [this]; rfl
def noPass (p : Int) : Bool := !(btw 0 p 39)
set_option maxHeartbeats 2000000 in
set_option maxRecDepth 100000 in
theorem no86 (p : Int) (w : World) : Calls Try.prog 86 #[.int .i64 p] w fun e w' => e = .returned (.bool (noPass p)) ∧ Below w.heap.size w w' := by
  have H := zA (btw_c 0 p 39)
  unfold noPass
  generalize btw 0 p 39 = g at H ⊢
  go_enter Try.func86, Try.ntmps86
  go_wp2_with (go_at_call 51; refine (H.out _).mono ?_; rintro e w' ⟨rfl, hb⟩)
  go_ret
  obtain ⟨n, rfl⟩ := hb
  exact ⟨rfl, pw_below_drewN (Below.refl _ _) _⟩
set_option maxHeartbeats 2000000 in
set_option maxRecDepth 100000 in
theorem index94 (A0 : Option Addr) (c0 : Nat) (l : List Int) (w : World) (hr0 : Kd.C (Kd.int .i64) w A0 l.length l) (hc0 : l.length ≤ c0) (hlen : l.length ≤ 1000000) :
    Calls Try.prog 94 #[.slice A0 l.length c0, .func (.func 86) #[] #[]] w fun e w' => e = .returned (.int .i64 (idxI noPass l)) ∧ Below w.heap.size w w' := by
  have HR := zA hr0
  have HC := zA hc0
  clear hr0 hc0
  have eg : ∀ args w, (callFunc 86 args).run Try.prog w = .ok (.enter 86 args) w := enters_of Try.func86 (by kernel_rfl) rfl
  go_enter Try.func94, Try.ntmps94
  go_wp2_with fail
  go_loopg [8] l.length (fun kq v8 w' => ∃ i : Int, v8 = .int .i64 i ∧ Aside0 (0 ≤ i ∧ (kq : Int) = l.length - i ∧ ∀ j : Nat, (j : Int) < i → noPass (rd l j) = false) ∧ Aside0 (Below w.heap.size w w'))
  case atStart => exact ⟨0, rfl, ⟨by omega, by omega, fun j hj => by omega⟩, ⟨Below.refl _ _⟩⟩
  case round =>
    obtain ⟨i, rfl, HI, HB⟩ := hrel
    by_cases c : i < (l.length : Int)
    · have p := HI.out.1
      obtain ⟨ad, e, h0⟩ := Kd.at_int HR.out i p c
      cases e
      replace h0 := (HB.out.cell (World.block_lt_of_cell? w _ h0)).trans h0
      have K := zA (no86 (rd l i) wr)
      go_wp2_with fail
      refine K.out.mono ?_
      rintro e w' ⟨rfl, hb⟩
      have HB' := zA (HB.out.trans (hb.mono HB.out.size))
      clear hb K
      by_cases hp : noPass (rd l i) = true
      · have hr : idxI noPass l = i := idxI_at HI.out.1 c HI.out.2.2 hp
        have HR' := zA hr
        clear hr
        rw [hp]
        go_wp2
        go_ret
        exact ⟨by rw [HR'.out]; rfl, HB'.out⟩
      · replace hp : noPass (rd l i) = false := by simpa using hp
        have hall : ∀ j : Nat, (j : Int) < i + 1 → noPass (rd l j) = false := by
          intro j hj
          by_cases e : (j : Int) = i
          · rw [e]; exact hp
          · exact HI.out.2.2 j (by omega)
        have HA := zA hall
        clear hall
        have hi := HI.out.2.1
        rw [hp]
        go_wp2
        go_roundg (l.length - (i + 1)).toNat
        case measure => omega
        case rel => exact ⟨i + 1, by first | rfl | simp, ⟨by omega, by omega, HA.out⟩, HB'⟩
    · have hr : idxI noPass l = -1 := idxI_none (fun j hj => HI.out.2.2 j (by have := HI.out.2.1; omega))
      have HR' := zA hr
      clear hr
      go_wp2
      go_ret
      exact ⟨by rw [HR'.out]; rfl, HB.out⟩
set_option maxHeartbeats 2000000 in
set_option maxRecDepth 100000 in
theorem contains85 (A0 : Option Addr) (c0 : Nat) (l : List Int) (w : World) (hr0 : Kd.C (Kd.int .i64) w A0 l.length l) (hc0 : l.length ≤ c0) (hlen : l.length ≤ 1000000) :
    Calls Try.prog 85 #[.slice A0 l.length c0, .func (.func 86) #[] #[]] w fun e w' => e = .returned (.bool (l.any noPass)) ∧ Below w.heap.size w w' := by
  have H := zA (index94 A0 c0 l w hr0 hc0 hlen)
  clear hr0 hc0
  have E := zA (idxI_any (P := noPass) (l := l))
  generalize idxI noPass l = r at H E
  go_enter Try.func85, Try.ntmps85
  go_wp2_with (go_at_call 94; refine H.out.mono ?_; rintro e w' ⟨rfl, hb⟩)
  go_ret
  exact ⟨by rw [← E.out]; rfl, hb⟩
def psT (plan : List Int) (k : Nat) : List Int := plan.take k ++ List.replicate (40 - k) (-1)
theorem psT_succ {plan : List Int} {k : Nat} (h : k < plan.length) (h40 : k < 40) : (psT plan k).set k (rd plan (k : Int)) = psT plan (k + 1) := by
  unfold psT
  rw [List.set_append_right _ _ (by rw [List.length_take]; omega), List.length_take, Nat.min_eq_left (by omega), Nat.sub_self]
  obtain ⟨r, hr⟩ : ∃ r, 40 - k = r + 1 := ⟨40 - k - 1, by omega⟩
  have e : rd plan (k : Int) = plan[k] := by
    unfold rd
    rw [List.getD_eq_getElem?_getD, Int.toNat_natCast, List.getElem?_eq_getElem h]; rfl
  rw [hr, show 40 - (k + 1) = r by omega, List.take_succ_eq_append_getElem h, e, List.append_assoc]
  rfl
def clashAt (rest : Int) (l : List S47) (plan : List Int) (k : Nat) : List Int := clashL l (psT plan k) rest (rd_T47 l (k : Int)).f0 (rd_T47 l (k : Int)).f1 l.length 0
def okAt (rest : Int) (l : List S47) (plan : List Int) (k : Nat) : Bool := !((clashAt rest l plan k).contains (rd plan (k : Int)))
def planOk (rest : Int) (l : List S47) (plan : List Int) : Bool := (List.range l.length).all (okAt rest l plan)
end Go.Proofs.Ytegffliopblajaa.P
end
section
namespace Go.Proofs.Ytegffliopblajaa.P
open Go.RowKit Go.Shelf Go.Proofs.YtegffliopblajaaW.PrintWords Go.Proofs.YtegffliopblajaaW.PrintLast Go.Proofs.YtegffliopblajaaW.PrintMore
set_option linter.unusedVariables false
set_option linter.unusedSimpArgs false
attribute [local go_sem] Oper.semAt_some
def T68 (rest : Int) (A : Option Addr) (n c : Nat) (A1 : Option Addr) (c1 : Nat) (g1 g4 g5 B k : Nat) (s : Nat → Value) : Array Value := #[.agg #[.int .i64 rest, .slice A n c], .slice A1 n c1, .pointer (some ⟨g1, 0, none⟩), s 3, .pointer (some ⟨g4, 0, none⟩), .pointer (some ⟨g5, 0, none⟩), .int .i64 0, .pointer (some ⟨B, 0, none⟩), s 8, s 9, s 10, s 11, s 12, s 13, s 14, s 15, s 16, s 17, s 18, s 19, s 20, s 21, s 22, s 23, s 24, s 25, s 26, s 27, .slice A1 n c1, .int .i64 n, .int .i64 k, s 31, s 32, s 33, s 34, s 35, s 36, s 37, s 38, s 39, s 40, s 41, s 42, s 43, s 44, s 45, s 46, s 47, s 48, s 49, s 50, s 51, s 52, s 53]
set_option maxHeartbeats 8000000 in
set_option maxRecDepth 100000 in
theorem planned_rounds (rest : Int) (A : Option Addr) (c : Nat) (A1 : Option Addr) (c1 : Nat) (g1 g4 g5 B : Nat) (l : List S47) (plan : List Int) (w : World) (Q : Exit → Act → World → Prop) (hp : plan.length = l.length) (hn : l.length ≤ 40) (hc : l.length ≤ c) (hC : Kd.C k47 w A l.length l) (hP : Kd.C (Kd.int .i64) w A1 l.length plan)
  (w1 : w.heap.size ≤ g1) (w4 : w.heap.size ≤ g4) (w5 : w.heap.size ≤ g5) (wB : w.heap.size ≤ B) (n14 : g1 ≠ g4) (n15 : g1 ≠ g5) (n45 : g4 ≠ g5) (n1B : g1 ≠ B) (n4B : g4 ≠ B) (n5B : g5 ≠ B) (L : Code) (hL : Try.f68.body.bind loopBody = some L)
  (hRet : ∀ ds W (tm : Array Value), tm.getD 4 undef = .pointer (some ⟨g4, 0, none⟩) → tm.getD 5 undef = .pointer (some ⟨g5, 0, none⟩) → Below w.heap.size w W → Marks w.heap.size W W.heap.size ds → W.heap[g4]? = some (.cells #[.pointer none] 104 (0, 0)) → W.heap[g5]? = some (.cells #[.int .i64 14] 27 (0, 0)) →
   planOk rest l plan = false → Q .ret { tmps := tm, defers := ds } W)
  (hEnd : ∀ ds W s, Below w.heap.size w W → Marks w.heap.size W W.heap.size ds → W.heap[g4]? = some (.cells #[.pointer none] 104 (0, 0)) → W.heap[g5]? = some (.cells #[.int .i64 0] 27 (0, 0)) → Sh W B rest A l.length c (psT plan l.length) → planOk rest l plan = true →
   Q (.exit 1) { tmps := T68 rest A l.length c A1 c1 g1 g4 g5 B l.length s, defers := ds } W) :
  ∀ (k : Nat) (i : Nat) (ds : List Deferred) (W : World) (s : Nat → Value), l.length + 1 ≤ i + k → i ≤ l.length → Below w.heap.size w W → Marks w.heap.size W W.heap.size ds →
   W.heap[g1]? = some (.cells #[.int .i64 rest, .slice A l.length c] 24 (0, 0)) → W.heap[g4]? = some (.cells #[.pointer none] 104 (0, 0)) → W.heap[g5]? = some (.cells #[.int .i64 0] 27 (0, 0)) → Sh W B rest A l.length c (psT plan i) → (∀ j : Nat, j < i → okAt rest l plan j = true) →
   Code.rounds Try.prog L Q k { tmps := T68 rest A l.length c A1 c1 g1 g4 g5 B i s, defers := ds } W := by
 have mixed : Try.prog.follows .mixedOrders = true := by kernel_rfl
 have hu47 := Try.underlying47
 have hu24 := Try.underlying24
 have hu22 := Try.underlying22
 have hu26 := Try.underlying26
 have hu108 := Try.underlying108
 have hu106 := Try.underlying106
 simp only [Try.f68, Option.bind, loopBody] at hL
 obtain rfl := Option.some.inj hL
 clear hL
 intro k
 induction k with
 | zero =>
  intro i ds W s hk hi
  omega
 | succ k ih =>
  intro i ds W s hk hi hW hM o1 o4 o5 hS hj
  have IH := zA ih
  have HRET := zA hRet
  have HEND := zA hEnd
  have HW := zA hW
  have HM := zA hM
  have O1 := zA o1
  have O4 := zA o4
  have O5 := zA o5
  have SH := zA hS
  have HJ := zA hj
  have HC := zA hC
  have HP := zA hP
  clear ih hRet hEnd hW hM o1 o4 o5 hS hj hC hP
  unfold Code.rounds T68
  by_cases q : i < l.length
  ·
   have qz : (i : Int) < (l.length : Int) := by omega
   obtain ⟨ap, ea, hx⟩ := Kd.at_int HP.out (i : Int) (by omega) qz
   cases ea
   replace hx := (HW.out.cell (World.block_lt_of_cell? w _ hx)).trans hx
   rw [Int.toNat_natCast] at hx
   obtain ⟨al, el, h0, h1⟩ := at_T47 HC.out (i : Int) (by omega) qz
   cases el
   replace h0 := (HW.out.cell (World.block_lt_of_cell? w _ h0)).trans h0
   replace h1 := (HW.out.cell (World.block_lt_of_cell? w _ h1)).trans h1
   rw [Int.toNat_natCast] at h0 h1
   have HOK : Aside0 (okAt rest l plan i = !((clashL l (psT plan i) rest (rd_T47 l (i : Int)).f0 (rd_T47 l (i : Int)).f1 l.length 0).contains (rd plan (i : Int)))) := ⟨rfl⟩
   have HPS := zA (psT_succ (plan := plan) (k := i) (by omega) (by omega))
   obtain ⟨a, ha⟩ : ∃ a, a = (rd_T47 l (i : Int)).f0 := ⟨_, rfl⟩
   obtain ⟨b, hb⟩ : ∃ b, b = (rd_T47 l (i : Int)).f1 := ⟨_, rfl⟩
   obtain ⟨p, hpv⟩ : ∃ p, p = rd plan (i : Int) := ⟨_, rfl⟩
   rw [← ha] at h0 HOK
   rw [← hb] at h1 HOK
   rw [← hpv] at hx HOK HPS
   clear ha hb hpv
   have cj : W.cell? ⟨g1, 1, none⟩ = some (.slice (some al) l.length c) := (blk_cell O1.out 1).trans rfl
   replace h0 := Lib.cell?_alloc_some (.cells #[.int .i64 p] 3) h0
   replace h1 := Lib.cell?_alloc_some (.cells #[.int .i64 p] 3) h1
   replace cj := Lib.cell?_alloc_some (.cells #[.int .i64 p] 3) cj
   go_wp2_with fail
   refine (clashes_c _ _ _ _).mono ?_
   rintro e W2 ⟨rfl, hW2⟩
   obtain ⟨W1, hW1⟩ : ∃ W1, W1 = W.alloc (.cells #[.int .i64 p] 3) := ⟨_, rfl⟩
   obtain ⟨gp, hgp⟩ : ∃ gp, gp = W.heap.size := ⟨_, rfl⟩
   rw [← hW1] at hW2 ⊢
   have op1 : W1.heap[gp]? = some (.cells #[.int .i64 p] 3 (0, 0)) := by rw [hgp, hW1]; exact heap_alloc_new _ _
   have b1 : Below W.heap.size W W1 := by rw [hW1]; exact below_alloc (Below.refl _ _) _
   have s1 : W1.heap.size = W.heap.size + 1 := by rw [hW1]; simp
   have bW2 : Below W1.heap.size W1 W2 := by rw [hW2]; exact below_alloc (below_alloc (Below.refl _ _) _) _
   have sz2 : W2.heap.size = W1.heap.size + 2 := by rw [hW2]; simp
   have cx : W2.cell? ⟨W1.heap.size, 0, none⟩ = some (.pointer (some ⟨B, 0, none⟩)) := by rw [hW2]; exact Lib.cell?_alloc_some _ (cell_new_at _ _ _ _ rfl)
   have ca : W2.cell? ⟨W1.heap.size + 1, 0, none⟩ = some (.int .i64 a) := by rw [hW2]; have := cell_new_two0 (W1.alloc (.cells #[.pointer (some ⟨B, 0, none⟩)] 104)) (.int .i64 a) (.int .i64 b) 47; rw [World.size_alloc] at this; exact this
   have cb : W2.cell? ⟨W1.heap.size + 1, 1, none⟩ = some (.int .i64 b) := by rw [hW2]; have := cell_new_two1 (W1.alloc (.cells #[.pointer (some ⟨B, 0, none⟩)] 104)) (.int .i64 a) (.int .i64 b) 47; rw [World.size_alloc] at this; exact this
   have bb : Below W.heap.size W W2 := b1.trans (bW2.mono b1.size)
   have b02 : Below w.heap.size w W2 := HW.out.trans (bb.mono HW.out.size)
   have OP := zA (blk_keep op1 bW2)
   have O12 := zA (blk_keep O1.out bb)
   have O42 := zA (blk_keep O4.out bb)
   have O52 := zA (blk_keep O5.out bb)
   have SH2 := zA (SH.out.below bb)
   have M2 : Aside0 (Marks w.heap.size W2 W2.heap.size ds) := ⟨(HM.out.keep (fun k o ho _ => (bb.block k (Array.getElem?_eq_some_iff.1 ho).1).trans ho)).mono bb.size⟩
   have B02 := zA b02
   have l1 : g1 < W2.heap.size := blk_lt O12.out
   have l4 : g4 < W2.heap.size := blk_lt O42.out
   have l5 : g5 < W2.heap.size := blk_lt O52.out
   have lB : B < W2.heap.size := blk_lt SH2.out.2
   have lp : gp < W2.heap.size := blk_lt OP.out
   have np4 : gp ≠ g4 := by have := blk_lt O4.out; omega
   have np5 : gp ≠ g5 := by have := blk_lt O5.out; omega
   have npB : gp ≠ B := by have := blk_lt SH.out.2; omega
   have wp : w.heap.size ≤ gp := by have := HW.out.size; omega
   rw [← hgp]
   have CLS := zA (clashes_stops B W1.heap.size (W1.heap.size + 1) rest (some al) c l (psT plan i) a b W2 hn hc SH2.out (Kd.C_below HC.out B02.out) cx ca cb)
   clear b1 bW2 cx ca cb bb b02 hW1 hW2 op1 h0 h1 cj hx hgp s1 sz2
   go_wp2_with fail
   refine wpIn_wide.1 (wpIn_rangeFunc_ownF (n := 10) rfl (by omega) rfl trivial (enters_of Try.func90 (by kernel_rfl) rfl) CLS.out
    belowK_t (belowK_b (Nat.le_refl _)) (Below.refl _ _) (fun _ => rfl)
    (fun pre W' => Below W2.heap.size W2 W' ∧ p ∉ pre)
    (fun c pre W' => c = .ret ∧ p ∈ pre ∧ (∀ (k : Nat) (o : Obj), W2.heap[k]? = some o → o.isCells = false → W'.heap[k]? = some o) ∧ Below w.heap.size w W' ∧ W2.heap.size ≤ W'.heap.size ∧ W'.heap[g4]? = some (.cells #[.pointer none] 104 (0, 0)) ∧ W'.heap[g5]? = some (.cells #[.int .i64 14] 27 (0, 0)))
    ?hI ?hIx ⟨Below.refl _ _, fun hx => by cases hx⟩
    (fun x => { tmps := #[.agg #[.int .i64 rest, .slice (some al) l.length c], .slice (some ap) l.length c1, .pointer (some ⟨g1, 0, none⟩), s 3, .pointer (some ⟨g4, 0, none⟩), .pointer (some ⟨g5, 0, none⟩), .int .i64 0, .pointer (some ⟨B, 0, none⟩), .int .i64 i, .pointer (some ⟨gp, 0, none⟩), .int .i64 x, s 11, s 12, s 13, s 14, s 15, s 16, s 17, s 18, s 19, s 20, s 21, s 22, s 23, s 24, s 25, s 26, s 27, .slice (some ap) l.length c1, .int .i64 l.length, .int .i64 i, .bool true, .int .i64 i, .pointer (some (ap.add i)), .int .i64 p, .pointer (some ⟨B, 0, none⟩), .pointer (some ⟨g1, 1, none⟩), .slice (some al) l.length c, .int .i64 i, .pointer (some (al.add (i * 2))), .agg #[.int .i64 a, .int .i64 b], .func (.func 90) #[] #[.pointer (some ⟨W1.heap.size, 0, none⟩), .pointer (some ⟨W1.heap.size + 1, 0, none⟩)], .int .i64 x, s 43, s 44, s 45, s 46, s 47, s 48, s 49, s 50, s 51, s 52, s 53], defers := [] }) ?assign ?body ?done ?stop)
   case hI =>
    intro pre A' B' row hs hg hrow
    exact ⟨hs.1.trans ⟨hg.os, hg.tape, hg.output, hg.size, fun k hk => hg.block k (by have := hs.1.size; omega) (fun e => by obtain ⟨h1, _⟩ := hrow k e.symm; omega)⟩, hs.2⟩
   case hIx =>
    intro c' pre A' B' row hs hg hrow
    obtain ⟨e, hm, h1, h2, h2s, h4, h6⟩ := hs
    have kb : KeepC A' B' := ⟨hg.size, fun k o hk ho => (hg.block k (Array.getElem?_eq_some_iff.1 hk).1 (fun e => by obtain ⟨_, o2, h9, h10⟩ := hrow k e.symm; rw [hk] at h9; injection h9 with h9; subst h9; rw [ho] at h10; cases h10)).trans hk⟩
    refine ⟨e, hm, fun k o hk ho => ?_, h2.trans ⟨hg.os, hg.tape, hg.output, hg.size, fun k hk => hg.block k (by have := h2.size; omega) (fun e => by obtain ⟨h1, _⟩ := hrow k e.symm; have := B02.out.size; omega)⟩, Nat.le_trans h2s hg.size, kb.2 _ _ h4 rfl, kb.2 _ _ h6 rfl⟩
    have hlt : k < W2.heap.size := (Array.getElem?_eq_some_iff.1 hk).1
    exact (hg.block k (by omega) (fun e => by obtain ⟨h1, _⟩ := hrow k e.symm; omega)).trans (h1 k o hk ho)
   case assign =>
    intro l' x W' K hK
    gi_wp2
    exact hK
   case body =>
    rintro lp' pre x W3 ⟨hI, hall⟩ hlen
    have op3 := (hI.block gp lp).trans OP.out
    have o43 := (hI.block g4 l4).trans O42.out
    have o53 := (hI.block g5 l5).trans O52.out
    have cp : W3.cell? ⟨gp, 0, none⟩ = some (.int .i64 p) := (blk_cell op3 0).trans rfl
    have c4 : W3.cell? ⟨g4, 0, none⟩ = some (.pointer none) := (blk_cell o43 0).trans rfl
    have c5 : W3.cell? ⟨g5, 0, none⟩ = some (.int .i64 0) := (blk_cell o53 0).trans rfl
    have f4 := blk_frozen o43 0
    have f5 := blk_frozen o53 0
    have HI := zA hI
    have HALL := zA hall
    have O43 := zA o43
    have O53 := zA o53
    clear hI hall o43 o53 op3
    by_cases hx : x = p
    ·
     have hxd : decide (x = p) = true := decide_eq_true hx
     gi_wp2
     have s1 := HI.out.size
     refine ⟨(KeepsOthers.setCell _ _ _).trans (KeepsOthers.setCell _ _ _), rfl, by rw [hx]; simp, fun k o hk ho => ?_, ((B02.out.trans (HI.out.mono B02.out.size)).setCell (p := ⟨g4, 0, none⟩) w4 _).setCell (p := ⟨g5, 0, none⟩) w5 _, by simpa [World.setCell] using s1, (Below.heap_setCell _ ⟨g5, 0, none⟩ _ _ n45).trans (set_one O43.out), set_one ((Below.heap_setCell _ ⟨g4, 0, none⟩ _ _ (Ne.symm n45)).trans O53.out)⟩
     refine (Below.heap_setCell _ _ _ _ (fun e => ?_)).trans ((Below.heap_setCell _ _ _ _ (fun e => ?_)).trans ((HI.out.block k (Array.getElem?_eq_some_iff.1 hk).1).trans hk))
     ·
      replace e : k = g5 := e
      rw [e, O52.out] at hk
      injection hk with hk; subst hk; cases ho
     ·
      replace e : k = g4 := e
      rw [e, O42.out] at hk
      injection hk with hk; subst hk; cases ho
    ·
     have hxd : decide (x = p) = false := decide_eq_false hx
     gi_wp2
     exact ⟨KeepsOthers.refl _, Below.refl _ _, HI.out, fun hy => by
      rcases List.mem_append.1 hy with hy | hy
      ·
       exact HALL.out hy
      ·
       rw [List.mem_singleton] at hy; exact hx hy.symm⟩
   case done =>
    rintro D ys W' hD rfl ⟨hb, hall⟩ hmark
    have hM' : Marks w.heap.size W' W'.heap.size ({ target := .collected D, args := #[] } :: ds) :=
     ⟨D, rfl, by have := B02.out.size; omega, (Array.getElem?_eq_some_iff.1 hmark).1, hmark, (M2.out.keep (fun k o ho _ => (hb.block k (Array.getElem?_eq_some_iff.1 ho).1).trans ho)).mono hD⟩
    have hok : okAt rest l plan i = true := by
     rw [HOK.out, Bool.not_eq_true', ← Bool.not_eq_true, List.contains_iff_mem]; exact hall
    have hj2 : ∀ j : Nat, j < i + 1 → okAt rest l plan j = true := fun j hj => by
     rcases Nat.lt_or_ge j i with h | h
     ·
      exact HJ.out j h
     ·
      obtain rfl : j = i := by omega
      exact hok
    have sh3 := SH2.out.below hb
    have cp : W'.cell? ⟨gp, 0, none⟩ = some (.int .i64 p) := (blk_cell ((hb.block gp lp).trans OP.out) 0).trans rfl
    have i40 : i < 40 := by omega
    have i40z : (i : Int) < 40 := by omega
    have cB := sh3.cell i40
    have fB := blk_frozen sh3.2 (2 + i)
    obtain ⟨W5, hW5⟩ : ∃ W5, W5 = World.drew (W'.setCell ⟨B, 2 + i, none⟩ (.int .i64 p)) := ⟨_, rfl⟩
    have hoth : ∀ k, k ≠ B → W5.heap[k]? = W'.heap[k]? := fun k hk => by rw [hW5]; exact Below.heap_setCell W' ⟨B, 2 + i, none⟩ _ k hk
    have KK : Aside0 (∀ tm : Array Value, tm = T68 rest (some al) l.length c (some ap) c1 g1 g4 g5 B (i + 1) (fun n => tm.getD n undef) → Code.rounds Try.prog _ Q k { tmps := tm, defers := { target := .collected D, args := #[] } :: ds } W5) := ⟨fun tm e => by
     have := IH.out (i + 1) ({ target := .collected D, args := #[] } :: ds) W5 (fun n => tm.getD n undef) (by omega) (by omega) (by rw [hW5]; exact below_drew1 ((B02.out.trans (hb.mono B02.out.size)).setCell (p := ⟨B, 2 + i, none⟩) wB _))
      ((hM'.keep (fun k o ho hc => (hoth k (fun e => by subst e; rw [sh3.2] at ho; injection ho with ho; subst ho; cases hc)).trans ho)).mono (by rw [hW5]; show _ ≤ (W'.setCell _ _).heap.size; rw [size_set]; exact Nat.le_refl _))
      ((hoth g1 n1B).trans (blk_keep O12.out hb)) ((hoth g4 n4B).trans (blk_keep O42.out hb)) ((hoth g5 n5B).trans (blk_keep O52.out hb))
      (by rw [hW5, ← HPS.out]; exact (show Sh (World.drew (W'.setCell ⟨B, 2 + i, none⟩ (.int .i64 p))) B rest (some al) l.length c ((psT plan i).set i p) from sh3.put i p)) hj2
     rwa [← e] at this⟩
    have HW5 := zA hW5
    clear hM' hok hj2 sh3 hb hall hmark hoth hW5
    go_wp2
    refine wp_region_still_tail 6 (by kernel_rfl) (by kernel_rfl) ?_
    simp only [List.take_succ_cons, List.take_zero, List.drop_succ_cons, List.drop_zero]
    change wpStill _ _ (World.drew _) (fun a' => wpList _ _ _ _ a' (World.drew _)) _ _
    (repeat still_step)
    refine wpStill_nil ?_
    have hwi : IntKind.i64.wrap ((i : Int) + 1) = ((i + 1 : Nat) : Int) := (i64_w _).trans (by unfold wrap64; omega)
    go_wp2
    rw [← HW5.out]
    refine KK.out _ ?_
    rfl
   case stop =>
    rintro D c' pre W' hD hSp ⟨rfl, hmem, hno, hbel, hsz, q4, q5⟩ hmark
    refine wpIn_wide.2 ?_
    have hM' : Marks w.heap.size W' W'.heap.size ({ target := .collected D, args := #[] } :: ds) :=
     ⟨D, rfl, by have := B02.out.size; omega, (Array.getElem?_eq_some_iff.1 hmark).1, hmark, (M2.out.keep hno).mono hD⟩
    have hok : planOk rest l plan = false := by
     unfold planOk
     rw [← Bool.not_eq_true, List.all_eq_true]
     intro h
     have := h i (List.mem_range.2 q)
     rw [HOK.out, List.contains_iff_mem.2 (hSp.subset hmem)] at this
     cases this
    have KK : Aside0 (∀ tm : Array Value, tm.getD 4 undef = .pointer (some ⟨g4, 0, none⟩) → tm.getD 5 undef = .pointer (some ⟨g5, 0, none⟩) → Q .ret { tmps := tm, defers := { target := .collected D, args := #[] } :: ds } W') := ⟨fun tm h4 h5 => HRET.out _ W' tm h4 h5 hbel hM' q4 q5 hok⟩
    clear hM' hok hno hmark hbel
    go_wp2
    exact KK.out _ rfl rfl
  ·
   obtain rfl : i = l.length := by omega
   have HOK : Aside0 (planOk rest l plan = true) := ⟨by unfold planOk; rw [List.all_eq_true]; intro j hj; rw [List.mem_range] at hj; exact HJ.out j hj⟩
   have KK : Aside0 (∀ tm : Array Value, tm = T68 rest A l.length c A1 c1 g1 g4 g5 B l.length (fun n => tm.getD n undef) → Q (.exit 1) { tmps := tm, defers := ds } W) := ⟨fun tm e => by
    have := HEND.out ds W (fun n => tm.getD n undef) HW.out HM.out O4.out O5.out SH.out HOK.out
    rwa [← e] at this⟩
   go_wp2
   refine KK.out _ ?_
   rfl
end Go.Proofs.Ytegffliopblajaa.P
end
section
namespace Go.Proofs.Ytegffliopblajaa.P
open Go.RowKit Go.Shelf Go.Proofs.YtegffliopblajaaW.PrintWords Go.Proofs.YtegffliopblajaaW.PrintLast Go.Proofs.YtegffliopblajaaW.PrintMore
set_option linter.unusedVariables false
set_option linter.unusedSimpArgs false
attribute [local go_sem] Oper.semAt_some
theorem results68 (tm : Array Value) (W : World) (g4 g5 : Nat) (u v : Value) (h4 : tm.getD 4 undef = .pointer (some ⟨g4, 0, none⟩)) (h5 : tm.getD 5 undef = .pointer (some ⟨g5, 0, none⟩)) (f4 : W.heap[g4]? = some (.cells #[u] 104 (0, 0))) (f5 : W.heap[g5]? = some (.cells #[v] 27 (0, 0))) :
    (results Try.f68 tm).run Try.prog W = .ok (.tuple #[u, v]) W := by
  have e4 : tm[4]?.getD undef = .pointer (some ⟨g4, 0, none⟩) := by simpa using h4
  have e5 : tm[5]?.getD undef = .pointer (some ⟨g5, 0, none⟩) := by simpa using h5
  have c4 : W.cell? ⟨g4, 0, none⟩ = some u := (blk_cell f4 0).trans rfl
  have c5 : W.cell? ⟨g5, 0, none⟩ = some v := (blk_cell f5 0).trans rfl
  simp [results, Try.f68, e4, e5, c4, c5, go_sem]
theorem ret68 (tm : Array Value) (W : World) (g4 g5 base : Nat) (ds : List Deferred) (u v : Value) (R : Ending → World → Prop) (h4 : tm.getD 4 undef = .pointer (some ⟨g4, 0, none⟩)) (h5 : tm.getD 5 undef = .pointer (some ⟨g5, 0, none⟩)) (f4 : W.heap[g4]? = some (.cells #[u] 104 (0, 0))) (f5 : W.heap[g5]? = some (.cells #[v] 27 (0, 0)))
    (hM : Marks base W W.heap.size ds) (hb : base ≤ W.heap.size) (hR : ∀ W', Below base W W' → KeepC W W' → R (.returned (.tuple #[u, v])) W') : LeavesInM Fence.wide 10 Try.prog Try.f68 tm R ds .returning W :=
  leaves ds W.heap.size W hM hb (fun W' hb hk => ⟨_, results68 tm W' g4 g5 u v h4 h5 (hk.2 _ _ f4 rfl) (hk.2 _ _ f5 rfl), hR W' hb hk⟩)
theorem sh_keepC {W W' : World} {B : Nat} {rest : Int} {A : Option Addr} {n c : Nat} {ps : List Int} (h : Sh W B rest A n c ps) (k : KeepC W W') : Sh W' B rest A n c ps := ⟨h.1, k.2 _ _ h.2 rfl⟩
def planErr (rest : Int) (l : List S47) (plan : List Int) : Option Int :=
  (punch_Check.f rest l).bind fun e => if e = 0 then (if l.length ≤ 40 then (if plan.length = l.length then (if plan.any noPass = true then some 3 else if planOk rest l plan = true then some 0 else some 14) else some 6) else none) else some e
def planR (a0_0 : Int) (A0_1 : Option Addr) (c0_1 : Nat) (l0_1 : List S47) (l1 : List Int) (er : Int) (w : World) (e : Ending) (w' : World) : Prop :=
  ∃ p, e = .returned (.tuple #[.pointer p, .int .i64 er]) ∧ (er = 0 → ∃ B, p = some ⟨B, 0, none⟩ ∧ l0_1.length ≤ 40 ∧ Sh w' B a0_0 A0_1 l0_1.length c0_1 (psT l1 l0_1.length)) ∧ Below w.heap.size w w'
set_option maxHeartbeats 8000000 in
set_option maxRecDepth 100000 in
theorem planned68 (a0_0 : Int) (A0_1 : Option Addr) (c0_1 : Nat) (l0_1 : List S47) (A1 : Option Addr) (c1 : Nat) (l1 : List Int) (er : Int) (w : World) (hr0_1 : Kd.C k47 w A0_1 l0_1.length l0_1) (hc0_1 : l0_1.length ≤ c0_1) (hr1 : Kd.C (Kd.int .i64) w A1 l1.length l1) (hc1 : l1.length ≤ c1) (h : planErr a0_0 l0_1 l1 = some er) :
  Calls Try.prog 68 #[.agg #[.int .i64 a0_0, .slice A0_1 l0_1.length c0_1], .slice A1 l1.length c1] w (planR a0_0 A0_1 c0_1 l0_1 l1 er w) := by
 have hu24 := Try.underlying24
 have hu22 := Try.underlying22
 have hu26 := Try.underlying26
 unfold planErr at h
 obtain ⟨e0, her, h⟩ := Option.bind_eq_some_iff.mp h
 have HR := zA hr0_1
 have HP := zA hr1
 obtain ⟨Wa, hWa⟩ : ∃ Wa, Wa = ((w.alloc (.cells #[.int .i64 a0_0, .slice A0_1 l0_1.length c0_1] 24)).alloc (.cells #[.pointer none] 104)).alloc (.cells #[.int .i64 0] 27) := ⟨_, rfl⟩
 have bA : Below w.heap.size w Wa := by rw [hWa]; exact below_alloc (below_alloc (below_alloc (Below.refl _ _) _) _) _
 have sA : Wa.heap.size = w.heap.size + 3 := by rw [hWa]; simp
 have o1 : Wa.heap[w.heap.size]? = some (.cells #[.int .i64 a0_0, .slice A0_1 l0_1.length c0_1] 24 (0, 0)) := by
  rw [hWa]; exact (Below.heap_alloc _ _ _ (by simp; omega)).trans ((Below.heap_alloc _ _ _ (by simp)).trans (heap_alloc_new w _))
 have o4 : Wa.heap[w.heap.size + 1]? = some (.cells #[.pointer none] 104 (0, 0)) := by
  rw [hWa]
  have := heap_alloc_new (w.alloc (.cells #[.int .i64 a0_0, .slice A0_1 l0_1.length c0_1] 24)) (.cells #[.pointer none] 104)
  rw [World.size_alloc] at this
  exact (Below.heap_alloc _ _ _ (by simp)).trans this
 have o5 : Wa.heap[w.heap.size + 1 + 1]? = some (.cells #[.int .i64 0] 27 (0, 0)) := by
  rw [hWa]
  have := heap_alloc_new ((w.alloc (.cells #[.int .i64 a0_0, .slice A0_1 l0_1.length c0_1] 24)).alloc (.cells #[.pointer none] 104)) (.cells #[.int .i64 0] 27)
  rw [World.size_alloc, World.size_alloc] at this
  exact this
 have K20 := zA (punch_Check.calls a0_0 A0_1 c0_1 l0_1 e0 Wa (Kd.C_below hr0_1 bA) hc0_1 her)
 have O1 := zA o1
 have O4 := zA o4
 have O5 := zA o5
 have BA := zA bA
 have j1 : Wa.cell? ⟨w.heap.size, 0, none⟩ = some (.int .i64 a0_0) := (blk_cell o1 0).trans rfl
 have j2 : Wa.cell? ⟨w.heap.size, 1, none⟩ = some (.slice A0_1 l0_1.length c0_1) := (blk_cell o1 1).trans rfl
 rw [hWa] at j1 j2
 have HWa := zA hWa
 have HH := zA h
 clear hr0_1 hr1 her bA o1 o4 o5 hWa h
 refine callsIn_wide.1 (?_ : CallsIn Fence.wide 10 _ _ _ _ _)
 refine callsIn_of_wp_marks Try.func68 rfl trivial ?_
 refine wpIn_wide.2 ?_
 simp only [Try.ntmps68, List.size_toArray, List.length_cons, List.length_nil, Nat.reduceAdd, Nat.reduceSub, Array.replicate_succ, Array.replicate_zero, List.push_toArray, List.append_toArray, List.nil_append, List.cons_append]
 go_wp2_with fail
 rw [← HWa.out]
 refine K20.out.mono ?_
 rintro e w1 ⟨rfl, hb1⟩
 obtain ⟨g1, hg1⟩ : ∃ g, g = w.heap.size := ⟨_, rfl⟩
 obtain ⟨g4, hg4⟩ : ∃ g, g = w.heap.size + 1 := ⟨_, rfl⟩
 obtain ⟨g5, hg5⟩ : ∃ g, g = w.heap.size + 1 + 1 := ⟨_, rfl⟩
 rw [← hg1] at O1 ⊢
 rw [← hg4] at O4
 rw [← hg5] at O5
 have P1 := zA (blk_keep O1.out hb1)
 have P4 := zA (blk_keep O4.out hb1)
 have P5 := zA (blk_keep O5.out hb1)
 have HB1 := zA (BA.out.trans (hb1.mono BA.out.size))
 have wg1 : w.heap.size ≤ g1 := by omega
 have wg4 : w.heap.size ≤ g4 := by omega
 have wg5 : w.heap.size ≤ g5 := by omega
 have n14 : g1 ≠ g4 := by omega
 have n15 : g1 ≠ g5 := by omega
 have n45 : g4 ≠ g5 := by omega
 have e4 : g1 + 1 = g4 := by omega
 have e5 : g1 + 1 + 1 = g5 := by omega
 first | rw [e5, e4] | (simp only [e5, e4])
 clear K20 hb1 j1 j2 O1 O4 O5 HWa BA e4 e5 hg1 hg4 hg5 sA
 have c0 : w1.cell? ⟨g1, 0, none⟩ = some (.int .i64 a0_0) := (blk_cell P1.out 0).trans rfl
 have c1' : w1.cell? ⟨g1, 1, none⟩ = some (.slice A0_1 l0_1.length c0_1) := (blk_cell P1.out 1).trans rfl
 have c4 : w1.cell? ⟨g4, 0, none⟩ = some (.pointer none) := (blk_cell P4.out 0).trans rfl
 have c5 : w1.cell? ⟨g5, 0, none⟩ = some (.int .i64 0) := (blk_cell P5.out 0).trans rfl
 have f4 := blk_frozen P4.out 0
 have f5 := blk_frozen P5.out 0
 by_cases ce : e0 = 0
 ·
  subst ce
  have h := HH.out
  rw [if_pos rfl] at h
  split at h
  case isFalse => cases h
  rename_i hl
  by_cases cl : l1.length = l0_1.length
  ·
   rw [if_pos cl] at h
   have HH2 := zA h
   clear HH h
   have K85 := zA (contains85 A1 c1 l1 w1 (Kd.C_below HP.out HB1.out) hc1 (by omega))
   have clz : (l1.length : Int) = (l0_1.length : Int) := by omega
   have cld : decide ((l1.length : Int) = (l0_1.length : Int)) = true := decide_eq_true clz
   rw [cl] at K85
   have HP2 : Aside0 (Kd.C (Kd.int .i64) w A1 l0_1.length l1) := ⟨by have := HP.out; rwa [cl] at this⟩
   have CL := zA cl
   rw [cl]
   clear HP cl clz cld
   go_wp2_with fail
   refine K85.out.mono ?_
   rintro e w2 ⟨rfl, hb2⟩
   have R1 := zA (blk_keep P1.out hb2)
   have R4 := zA (blk_keep P4.out hb2)
   have R5 := zA (blk_keep P5.out hb2)
   have HB2 := zA (HB1.out.trans (hb2.mono HB1.out.size))
   clear hb2 K85 c0 c1' c4 c5 f4 f5 P1 P4 P5
   have c0 : w2.cell? ⟨g1, 0, none⟩ = some (.int .i64 a0_0) := (blk_cell R1.out 0).trans rfl
   have c1' : w2.cell? ⟨g1, 1, none⟩ = some (.slice A0_1 l0_1.length c0_1) := (blk_cell R1.out 1).trans rfl
   have c4 : w2.cell? ⟨g4, 0, none⟩ = some (.pointer none) := (blk_cell R4.out 0).trans rfl
   have c5 : w2.cell? ⟨g5, 0, none⟩ = some (.int .i64 0) := (blk_cell R5.out 0).trans rfl
   have f4 := blk_frozen R4.out 0
   have f5 := blk_frozen R5.out 0
   by_cases cn : l1.any noPass = true
   ·
    have h := HH2.out
    rw [if_pos cn] at h
    obtain rfl := Option.some.inj h
    clear HH2 h
    rw [cn]
    go_wp2
    exact (show LeavesInM _ _ _ _ _ _ _ _ _ from ret68 _ _ g4 g5 w.heap.size [] (.pointer none) (.int .i64 3) _ rfl rfl ((Below.heap_setCell _ ⟨g5, 0, none⟩ _ _ n45).trans (set_one R4.out)) (set_one ((Below.heap_setCell _ ⟨g4, 0, none⟩ _ _ (Ne.symm n45)).trans R5.out)) trivial
     (by rw [size_set, size_set]; exact HB2.out.size) (fun W' hb hk => ⟨none, rfl, fun h => absurd h (by decide), ((HB2.out.setCell (p := ⟨g4, 0, none⟩) wg4 _).setCell (p := ⟨g5, 0, none⟩) wg5 _).trans hb⟩))
   ·
    have h := HH2.out
    rw [if_neg cn] at h
    have HH3 := zA h
    clear HH2 h
    replace cn : l1.any noPass = false := by simpa using cn
    rw [cn]
    clear cn c4 c5 f4 f5
    go_wp2_with fail
    refine (blank60 a0_0 A0_1 l0_1.length c0_1 w2).mono ?_
    rintro e w3 ⟨B, rfl, hsh, hB, hb3⟩
    have S1 := zA (blk_keep R1.out hb3)
    have S4 := zA (blk_keep R4.out hb3)
    have S5 := zA (blk_keep R5.out hb3)
    have HB3 := zA (HB2.out.trans (hb3.mono HB2.out.size))
    have hps0 : psT l1 0 = List.replicate 40 (-1) := by simp [psT]
    rw [← hps0] at hsh
    have SH := zA hsh
    have wB : w.heap.size ≤ B := Nat.le_trans HB2.out.size hB
    have n1B : g1 ≠ B := by have := blk_lt R1.out; omega
    have n4B : g4 ≠ B := by have := blk_lt R4.out; omega
    have n5B : g5 ≠ B := by have := blk_lt R5.out; omega
    have key : ∀ (L : Code) (Q : Exit → Act → World → Prop), Try.f68.body.bind loopBody = some L →
      (∀ ds W (tm : Array Value), tm.getD 4 undef = .pointer (some ⟨g4, 0, none⟩) → tm.getD 5 undef = .pointer (some ⟨g5, 0, none⟩) → Below w.heap.size w W → Marks w.heap.size W W.heap.size ds → W.heap[g4]? = some (.cells #[.pointer none] 104 (0, 0)) → W.heap[g5]? = some (.cells #[.int .i64 14] 27 (0, 0)) →
       planOk a0_0 l0_1 l1 = false → Q .ret { tmps := tm, defers := ds } W) →
      (∀ ds W s, Below w.heap.size w W → Marks w.heap.size W W.heap.size ds → W.heap[g4]? = some (.cells #[.pointer none] 104 (0, 0)) → W.heap[g5]? = some (.cells #[.int .i64 0] 27 (0, 0)) → Sh W B a0_0 A0_1 l0_1.length c0_1 (psT l1 l0_1.length) → planOk a0_0 l0_1 l1 = true →
       Q (.exit 1) { tmps := T68 a0_0 A0_1 l0_1.length c0_1 A1 c1 g1 g4 g5 B l0_1.length s, defers := ds } W) →
      ∀ tm : Array Value, tm = T68 a0_0 A0_1 l0_1.length c0_1 A1 c1 g1 g4 g5 B 0 (fun n => tm.getD n undef) → Code.rounds Try.prog L Q (l0_1.length + 1) { tmps := tm, defers := [] } w3 := fun L Q hL hR hE tm e => by
     have := planned_rounds a0_0 A0_1 c0_1 A1 c1 g1 g4 g5 B l0_1 l1 w Q CL.out hl hc0_1 HR.out HP2.out wg1 wg4 wg5 wB n14 n15 n45 n1B n4B n5B L hL hR hE
      (l0_1.length + 1) 0 [] w3 (fun n => tm.getD n undef) (by omega) (Nat.zero_le _) HB3.out trivial S1.out S4.out S5.out SH.out (fun j hj => by omega)
     rw [← e] at this
     exact this
    have KEY := zA key
    clear key hsh hps0 hb3 R1 R4 R5 SH S1 S4 S5 c0 c1'
    go_wp2
    refine wp_loop_rounds _ (KEY.out _ _ (by kernel_rfl) ?_ ?_ _ ?_)
    ·
     intro ds W tm h4 h5 hb hM q4 q5 hok
     have h := HH3.out
     rw [if_neg (by rw [hok]; decide)] at h
     obtain rfl := Option.some.inj h
     exact (show LeavesInM _ _ _ _ _ _ _ _ _ from ret68 tm W g4 g5 w.heap.size ds (.pointer none) (.int .i64 14) _ h4 h5 q4 q5 hM hb.size (fun W' hb' hk => ⟨none, rfl, fun h => absurd h (by decide), hb.trans hb'⟩))
    ·
     intro ds W s hb hM q4 q5 sh hok
     have h := HH3.out
     rw [if_pos hok] at h
     obtain rfl := Option.some.inj h
     have c4 : W.cell? ⟨g4, 0, none⟩ = some (.pointer none) := (blk_cell q4 0).trans rfl
     have c5 : W.cell? ⟨g5, 0, none⟩ = some (.int .i64 0) := (blk_cell q5 0).trans rfl
     have f4 := blk_frozen q4 0
     have f5 := blk_frozen q5 0
     have KK : Aside0 (∀ tm : Array Value, tm.getD 4 undef = .pointer (some ⟨g4, 0, none⟩) → tm.getD 5 undef = .pointer (some ⟨g5, 0, none⟩) → bodyPostM Fence.wide 10 Try.prog Try.f68 (planR a0_0 A0_1 c0_1 l0_1 l1 0 w) .ret { tmps := tm, defers := ds } ((W.setCell ⟨g4, 0, none⟩ (.pointer (some ⟨B, 0, none⟩))).setCell ⟨g5, 0, none⟩ (.int .i64 0))) := ⟨fun tm h4 h5 =>
      (show LeavesInM _ _ _ _ _ _ _ _ _ from ret68 tm _ g4 g5 w.heap.size ds (.pointer (some ⟨B, 0, none⟩)) (.int .i64 0) _ h4 h5 ((Below.heap_setCell _ ⟨g5, 0, none⟩ _ _ n45).trans (set_one q4)) (set_one ((Below.heap_setCell _ ⟨g4, 0, none⟩ _ _ (Ne.symm n45)).trans q5))
       (by
        refine (hM.keep (fun k o ho hc => ?_)).mono (by rw [size_set, size_set]; exact Nat.le_refl _)
        refine (Below.heap_setCell _ _ _ _ (fun e => ?_)).trans ((Below.heap_setCell _ _ _ _ (fun e => ?_)).trans ho)
        ·
         replace e : k = g5 := e
         rw [e, q5] at ho; injection ho with ho; subst ho; cases hc
        ·
         replace e : k = g4 := e
         rw [e, q4] at ho; injection ho with ho; subst ho; cases hc)
       (by rw [size_set, size_set]; exact hb.size)
       (fun W' hb' hk => ⟨some ⟨B, 0, none⟩, rfl, fun _ => ⟨B, rfl, hl, sh_keepC ⟨sh.1, (Below.heap_setCell _ ⟨g5, 0, none⟩ _ _ (Ne.symm n5B)).trans ((Below.heap_setCell _ ⟨g4, 0, none⟩ _ _ (Ne.symm n4B)).trans sh.2)⟩ hk⟩, ((hb.setCell (p := ⟨g4, 0, none⟩) wg4 _).setCell (p := ⟨g5, 0, none⟩) wg5 _).trans hb'⟩))⟩
     clear hM sh hb q4 q5 hok h HH3
     unfold T68
     go_wp2
     exact KK.out _ rfl rfl
    ·
     rfl
  ·
   rw [if_neg cl] at h
   obtain rfl := Option.some.inj h
   clear HH h
   have clz : ¬ (l1.length : Int) = (l0_1.length : Int) := by omega
   have cld : decide ((l1.length : Int) = (l0_1.length : Int)) = false := decide_eq_false clz
   go_wp2
   exact (show LeavesInM _ _ _ _ _ _ _ _ _ from ret68 _ _ g4 g5 w.heap.size [] (.pointer none) (.int .i64 6) _ rfl rfl ((Below.heap_setCell _ ⟨g5, 0, none⟩ _ _ n45).trans (set_one P4.out)) (set_one ((Below.heap_setCell _ ⟨g4, 0, none⟩ _ _ (Ne.symm n45)).trans P5.out)) trivial
    (by rw [size_set, size_set]; exact HB1.out.size) (fun W' hb hk => ⟨none, rfl, fun h => absurd h (by decide), ((HB1.out.setCell (p := ⟨g4, 0, none⟩) wg4 _).setCell (p := ⟨g5, 0, none⟩) wg5 _).trans hb⟩))
 ·
  have h := HH.out
  rw [if_neg ce] at h
  obtain rfl := Option.some.inj h
  clear HH h
  go_wp2
  exact (show LeavesInM _ _ _ _ _ _ _ _ _ from ret68 _ _ g4 g5 w.heap.size [] (.pointer none) (.int .i64 e0) _ rfl rfl ((Below.heap_setCell _ ⟨g5, 0, none⟩ _ _ n45).trans (set_one P4.out)) (set_one ((Below.heap_setCell _ ⟨g4, 0, none⟩ _ _ (Ne.symm n45)).trans P5.out)) trivial
   (by rw [size_set, size_set]; exact HB1.out.size) (fun W' hb hk => ⟨none, rfl, fun h => absurd h ce, ((HB1.out.setCell (p := ⟨g4, 0, none⟩) wg4 _).setCell (p := ⟨g5, 0, none⟩) wg5 _).trans hb⟩))
def punch_Verify.f (a0_0 : Int) (l0_1 : List S47) (l1 : List Int) : Option (Int × Int) :=
  (planErr a0_0 l0_1 l1).bind fun e => if e = 0 then (punch_passes.f (l1.length + 1) l1).bind fun m => some (m, 0) else some (0, e)
set_option maxHeartbeats 8000000 in
set_option maxRecDepth 100000 in
theorem punch_Verify.calls (a0_0 : Int) (A0_1 : Option Addr) (c0_1 : Nat) (l0_1 : List S47) (A1 : Option Addr) (c1 : Nat) (l1 : List Int) (r1 r2 : Int) (w : World) (hr0_1 : Kd.C k47 w A0_1 l0_1.length l0_1) (hc0_1 : l0_1.length ≤ c0_1) (hr1 : Kd.C (Kd.int .i64) w A1 l1.length l1) (hc1 : l1.length ≤ c1) (h : punch_Verify.f a0_0 l0_1 l1 = some (r1, r2)) :
    Calls Try.prog 26 #[.agg #[.int .i64 a0_0, .slice A0_1 l0_1.length c0_1], .slice A1 l1.length c1] w fun e w' => e = .returned (.tuple #[.int .i64 r1, .int .i64 r2]) ∧ Below w.heap.size w w' := by
  have hu24 := Try.underlying24
  have hu26 := Try.underlying26
  unfold punch_Verify.f at h
  obtain ⟨er, her, h⟩ := Option.bind_eq_some_iff.mp h
  have HP := zA hr1
  have bA := below_alloc (Below.refl w.heap.size w) (.cells #[.int .i64 a0_0, .slice A0_1 l0_1.length c0_1] 24)
  have K68 := zA (planned68 a0_0 A0_1 c0_1 l0_1 A1 c1 l1 er (w.alloc (.cells #[.int .i64 a0_0, .slice A0_1 l0_1.length c0_1] 24)) (Kd.C_below hr0_1 bA) hc0_1 (Kd.C_below hr1 bA) hc1 her)
  have BA := zA bA
  have HH := zA h
  clear hr0_1 hr1 her bA h
  go_enter Try.func26, Try.ntmps26
  go_wp2_with fail
  refine K68.out.mono ?_
  rintro e w1 ⟨p, rfl, _, hb⟩
  have HB := zA (BA.out.trans (hb.mono BA.out.size))
  clear hb K68 BA
  by_cases ce : er = 0
  · subst ce
    have h := HH.out
    rw [if_pos rfl] at h
    obtain ⟨m, hm, h⟩ := Option.bind_eq_some_iff.mp h
    injection h with h
    injection h with h1 h2
    subst h1 h2
    have K63 := zA (punch_passes.calls (l1.length + 1) A1 c1 l1 m w1 (Kd.C_below HP.out HB.out) hc1 hm)
    clear hm HH
    go_wp2_with fail
    refine K63.out.mono ?_
    rintro e w2 ⟨rfl, hb2⟩
    have HB2 := zA (HB.out.trans (hb2.mono HB.out.size))
    clear hb2 K63
    go_wp2
    refine bodyPost_ret (results_tmp2 rfl _ _ _) rfl ?_
    exact ⟨rfl, HB2.out⟩
  · have h := HH.out
    rw [if_neg ce] at h
    injection h with h
    injection h with h1 h2
    subst h1 h2
    clear HH
    go_wp2
    refine bodyPost_ret (results_tmp2 rfl _ _ _) rfl ?_
    exact ⟨rfl, HB.out⟩
def nextPass (rest : Int) (l : List S47) (plan : List Int) (a b : Int) : Int := (mexL (clashL l (psT plan l.length) rest a b l.length 0) : Nat)
def punch_Add.f (a0_0 : Int) (l0_1 : List S47) (l1 : List Int) (a2_0 a2_1 : Int) : Option (Int × Int) :=
  (planErr a0_0 l0_1 l1).bind fun e => if e = 0 then (if good ⟨a2_0, a2_1⟩ = true then some (nextPass a0_0 l0_1 l1 a2_0 a2_1, 0) else some (0, 3)) else some (0, e)
set_option maxHeartbeats 8000000 in
set_option maxRecDepth 100000 in
theorem punch_Add.calls (a0_0 : Int) (A0_1 : Option Addr) (c0_1 : Nat) (l0_1 : List S47) (A1 : Option Addr) (c1 : Nat) (l1 : List Int) (a2_0 a2_1 : Int) (r1 r2 : Int) (w : World) (hr0_1 : Kd.C k47 w A0_1 l0_1.length l0_1) (hc0_1 : l0_1.length ≤ c0_1) (hr1 : Kd.C (Kd.int .i64) w A1 l1.length l1) (hc1 : l1.length ≤ c1) (h : punch_Add.f a0_0 l0_1 l1 a2_0 a2_1 = some (r1, r2)) :
  Calls Try.prog 28 #[.agg #[.int .i64 a0_0, .slice A0_1 l0_1.length c0_1], .slice A1 l1.length c1, .agg #[.int .i64 a2_0, .int .i64 a2_1]] w fun e w' => e = .returned (.tuple #[.int .i64 r1, .int .i64 r2]) ∧ Below w.heap.size w w' := by
 have hu24 := Try.underlying24
 have hu26 := Try.underlying26
 have hu47 := Try.underlying47
 unfold punch_Add.f at h
 obtain ⟨er, her, h⟩ := Option.bind_eq_some_iff.mp h
 have HR := zA hr0_1
 have bA := below_alloc (below_alloc (Below.refl w.heap.size w) (.cells #[.int .i64 a0_0, .slice A0_1 l0_1.length c0_1] 24)) (.cells #[.int .i64 a2_0, .int .i64 a2_1] 47)
 have K68 := zA (planned68 a0_0 A0_1 c0_1 l0_1 A1 c1 l1 er ((w.alloc (.cells #[.int .i64 a0_0, .slice A0_1 l0_1.length c0_1] 24)).alloc (.cells #[.int .i64 a2_0, .int .i64 a2_1] 47)) (Kd.C_below hr0_1 bA) hc0_1 (Kd.C_below hr1 bA) hc1 her)
 have BA := zA bA
 have o2 : ((w.alloc (.cells #[.int .i64 a0_0, .slice A0_1 l0_1.length c0_1] 24)).alloc (.cells #[.int .i64 a2_0, .int .i64 a2_1] 47)).heap[w.heap.size + 1]? = some (.cells #[.int .i64 a2_0, .int .i64 a2_1] 47 (0, 0)) := by
  have := heap_alloc_new (w.alloc (.cells #[.int .i64 a0_0, .slice A0_1 l0_1.length c0_1] 24)) (.cells #[.int .i64 a2_0, .int .i64 a2_1] 47)
  rw [World.size_alloc] at this
  exact this
 have O2 := zA o2
 have HH := zA h
 clear hr0_1 hr1 her bA h o2
 go_enter Try.func28, Try.ntmps28
 go_wp2_with fail
 refine K68.out.mono ?_
 rintro e w1 ⟨p, rfl, hsh, hb⟩
 have HB := zA (BA.out.trans (hb.mono BA.out.size))
 have O3 := zA (blk_keep O2.out hb)
 have HSH := zA hsh
 clear hb K68 BA hsh O2
 by_cases ce : er = 0
 ·
  subst ce
  obtain ⟨B, rfl, hl, sh⟩ := HSH.out rfl
  have h := HH.out
  rw [if_pos rfl] at h
  have c0 : w1.cell? ⟨w.heap.size + 1, 0, none⟩ = some (.int .i64 a2_0) := (blk_cell O3.out 0).trans rfl
  have c1' : w1.cell? ⟨w.heap.size + 1, 1, none⟩ = some (.int .i64 a2_1) := (blk_cell O3.out 1).trans rfl
  have K54 := zA (punch_Slot_good.calls a2_0 a2_1 (good ⟨a2_0, a2_1⟩) w1 (good_f ⟨a2_0, a2_1⟩))
  have SH := zA sh
  clear HSH HH sh
  go_wp2_with fail
  refine K54.out.mono ?_
  rintro e w2 ⟨rfl, hb2⟩
  have HB2 := zA (HB.out.trans (hb2.mono HB.out.size))
  have SH2 := zA (SH.out.below hb2)
  have O4 := zA (blk_keep O3.out hb2)
  clear c0 c1' hb2 K54
  have c0 : w2.cell? ⟨w.heap.size + 1, 0, none⟩ = some (.int .i64 a2_0) := (blk_cell O4.out 0).trans rfl
  have c1' : w2.cell? ⟨w.heap.size + 1, 1, none⟩ = some (.int .i64 a2_1) := (blk_cell O4.out 1).trans rfl
  by_cases cg : good ⟨a2_0, a2_1⟩ = true
  ·
   rw [if_pos cg] at h
   injection h with h
   injection h with h1 h2
   subst h1 h2
   rw [cg]
   have K61 := zA (smallest_c B a0_0 A0_1 c0_1 l0_1 (psT l1 l0_1.length) a2_0 a2_1 w2 hl hc0_1 SH2.out (Kd.C_below HR.out HB2.out))
   go_wp2_with fail
   refine K61.out.mono ?_
   rintro e w3 ⟨m, rfl, hm, hb3⟩
   have HM : Aside0 (nextPass a0_0 l0_1 l1 a2_0 a2_1 = (m : Int)) := ⟨by unfold nextPass; rw [← mexL_eq hm]⟩
   have HB3 := zA (HB2.out.trans (hb3.mono HB2.out.size))
   clear hb3 hm K61
   go_wp2
   refine bodyPost_ret (results_tmp2 rfl _ _ _) rfl ?_
   exact ⟨by rw [HM.out]; rfl, HB3.out⟩
  ·
   rw [if_neg cg] at h
   injection h with h
   injection h with h1 h2
   subst h1 h2
   replace cg : good ⟨a2_0, a2_1⟩ = false := by simpa using cg
   rw [cg]
   go_wp2
   refine bodyPost_ret (results_tmp2 rfl _ _ _) rfl ?_
   exact ⟨rfl, HB2.out⟩
 ·
  have h := HH.out
  rw [if_neg ce] at h
  injection h with h
  injection h with h1 h2
  subst h1 h2
  clear HH
  go_wp2
  refine bodyPost_ret (results_tmp2 rfl _ _ _) rfl ?_
  exact ⟨rfl, HB.out⟩
end Go.Proofs.Ytegffliopblajaa.P
end
section
namespace Go.Proofs.Ytegffliopblajaa.P
open Go.RowKit Go.Shelf Go.Proofs.YtegffliopblajaaW.PrintWords Go.Proofs.YtegffliopblajaaW.PrintLast Go.Proofs.YtegffliopblajaaW.PrintMore
set_option linter.unusedVariables false
set_option linter.unusedSimpArgs false
attribute [local go_sem] Oper.semAt_some
def paperOk (a0 a1 a2 a3 a4 : Int) : Bool := decide (900 ≤ a0) && decide (a0 ≤ a1) && decide (a1 ≤ 1100) && btw 1 a2 1000 && btw 1 a3 1000 && btw 1 a4 1000
theorem paperOk_f (a0 a1 a2 a3 a4 : Int) : punch_Paper_good.f a0 a1 a2 a3 a4 = some (paperOk a0 a1 a2 a3 a4) := by
  unfold punch_Paper_good.f paperOk
  rw [btw_f, btw_f, btw_f]
  by_cases h1 : 900 ≤ a0
  · by_cases h2 : a0 ≤ a1
    · by_cases h3 : a1 ≤ 1100
      · cases h4 : btw 1 a2 1000 <;> cases h5 : btw 1 a3 1000 <;> simp [h1, h2, h3]
      · simp [h1, h2, h3]
    · simp [h1, h2]
  · simp [h1]
theorem paperOk_iff {a0 a1 a2 a3 a4 : Int} : paperOk a0 a1 a2 a3 a4 = true ↔ 900 ≤ a0 ∧ a0 ≤ a1 ∧ a1 ≤ 1100 ∧ 1 ≤ a2 ∧ a2 ≤ 1000 ∧ 1 ≤ a3 ∧ a3 ≤ 1000 ∧ 1 ≤ a4 ∧ a4 ≤ 1000 := by
  unfold paperOk
  simp only [Bool.and_eq_true, decide_eq_true_eq, btw_iff]
  omega
def barHi (a1 a2 : Int) : Int := 1000 * a2 / a1
def barLo (a0 a3 : Int) : Int := (1000 * a3 + a0 - 1) / a0
def barTo (a1 a4 : Int) : Int := (1000 * a4 - 1) / a1
def punch_Bars.f (a0 a1 a2 a3 a4 : Int) : Option (Int × Int × Int × Int × Int) :=
  if paperOk a0 a1 a2 a3 a4 = true then (if barHi a1 a2 < 1 then some (0, 0, 0, 0, 20) else if barLo a0 a3 > barTo a1 a4 then some (1, barHi a1 a2, 0, 0, 0) else some (1, barHi a1 a2, barLo a0 a3, barTo a1 a4, 0)) else some (0, 0, 0, 0, 3)
theorem results30 (tm : Array Value) (W : World) (g2 g3 : Nat) (a b c d : Value) (e : Value) (h2 : tm.getD 2 undef = .pointer (some ⟨g2, 0, none⟩)) (h3 : tm.getD 3 undef = .pointer (some ⟨g3, 0, none⟩)) (h4 : tm.getD 4 undef = e) (f2 : W.heap[g2]? = some (.cells #[a, b] 55 (0, 0))) (f3 : W.heap[g3]? = some (.cells #[c, d] 55 (0, 0))) :
    (results Try.f30 tm).run Try.prog W = .ok (.tuple #[.agg #[a, b], .agg #[c, d], e]) W := by
  have hu55 := Try.underlying55
  have e2 : tm[2]?.getD undef = .pointer (some ⟨g2, 0, none⟩) := by simpa using h2
  have e3 : tm[3]?.getD undef = .pointer (some ⟨g3, 0, none⟩) := by simpa using h3
  have e4 : tm[4]?.getD undef = e := by simpa using h4
  have c20 : W.cell? ⟨g2, 0, none⟩ = some a := (blk_cell f2 0).trans rfl
  have c21 : W.cell? ⟨g2, 1, none⟩ = some b := (blk_cell f2 1).trans rfl
  have c30 : W.cell? ⟨g3, 0, none⟩ = some c := (blk_cell f3 0).trans rfl
  have c31 : W.cell? ⟨g3, 1, none⟩ = some d := (blk_cell f3 1).trans rfl
  simp [results, Try.f30, e2, e3, e4, c20, c21, c30, c31, go_sem]
theorem set_two {W : World} {b t : Nat} {u v x y : Value} (h : W.heap[b]? = some (.cells #[u, v] t (0, 0))) : ((W.setCell ⟨b, 0, none⟩ x).setCell ⟨b, 1, none⟩ y).heap[b]? = some (.cells #[x, y] t (0, 0)) := by
  unfold World.setCell
  simp only [Array.getElem?_modify, if_true, h]
  rfl
theorem wp_at_world {P : Program} {c : Code} {Q : Exit → Act → World → Prop} {a : Act} {W : World} (Pr : World → Prop) (h : Pr W) (k : ∀ W', Pr W' → Code.wp P c Q a W') : Code.wp P c Q a W := k W h
theorem set_off {W : World} {b c t : Nat} {u v x y : Value} (h : W.heap[b]? = some (.cells #[u, v] t (0, 0))) (n : b ≠ c) : ((W.setCell ⟨c, 0, none⟩ x).setCell ⟨c, 1, none⟩ y).heap[b]? = some (.cells #[u, v] t (0, 0)) :=
  (Below.heap_setCell _ ⟨c, 1, none⟩ _ _ n).trans ((Below.heap_setCell _ ⟨c, 0, none⟩ _ _ n).trans h)
def Two (w : World) (g2 g3 : Nat) (a b c d : Int) (W : World) : Prop := W.heap[g2]? = some (.cells #[.int .i64 a, .int .i64 b] 55 (0, 0)) ∧ W.heap[g3]? = some (.cells #[.int .i64 c, .int .i64 d] 55 (0, 0)) ∧ Below w.heap.size w W
theorem Two.drew {w W : World} {g2 g3 : Nat} {a b c d : Int} (h : Two w g2 g3 a b c d W) : Two w g2 g3 a b c d W.drew := ⟨h.1, h.2.1, below_drew1 h.2.2⟩
theorem Two.set2 {w W : World} {g2 g3 : Nat} {a b c d : Int} (h : Two w g2 g3 a b c d W) (n : g2 ≠ g3) (hw : w.heap.size ≤ g2) (x y : Int) : Two w g2 g3 x y c d ((W.setCell ⟨g2, 0, none⟩ (.int .i64 x)).setCell ⟨g2, 1, none⟩ (.int .i64 y)) :=
  ⟨set_two h.1, set_off h.2.1 (Ne.symm n), (h.2.2.setCell (p := ⟨g2, 0, none⟩) hw _).setCell (p := ⟨g2, 1, none⟩) hw _⟩
theorem Two.set3 {w W : World} {g2 g3 : Nat} {a b c d : Int} (h : Two w g2 g3 a b c d W) (n : g2 ≠ g3) (hw : w.heap.size ≤ g3) (x y : Int) : Two w g2 g3 a b x y ((W.setCell ⟨g3, 0, none⟩ (.int .i64 x)).setCell ⟨g3, 1, none⟩ (.int .i64 y)) :=
  ⟨set_off h.1 n, set_two h.2.1, (h.2.2.setCell (p := ⟨g3, 0, none⟩) hw _).setCell (p := ⟨g3, 1, none⟩) hw _⟩
theorem fin30 {w W : World} {g2 g3 : Nat} {a b c d e : Int} {tm : Array Value} (h2 : tm.getD 2 undef = .pointer (some ⟨g2, 0, none⟩)) (h3 : tm.getD 3 undef = .pointer (some ⟨g3, 0, none⟩)) (h4 : tm.getD 4 undef = .int .i64 e) (h : Two w g2 g3 a b c d W) :
    bodyPost Try.prog Try.f30 (fun e' w' => e' = .returned (.tuple #[.agg #[.int .i64 a, .int .i64 b], .agg #[.int .i64 c, .int .i64 d], .int .i64 e]) ∧ Below w.heap.size w w') .ret { tmps := tm, defers := [] } W :=
  bodyPost_ret (results30 tm W g2 g3 _ _ _ _ _ h2 h3 h4 h.1 h.2.1) rfl ⟨rfl, h.2.2⟩
set_option maxHeartbeats 8000000 in
set_option maxRecDepth 100000 in
theorem punch_Bars.calls (a0_0 a0_1 a0_2 a0_3 a0_4 : Int) (r1 r2 r3 r4 r5 : Int) (w : World) (h : punch_Bars.f a0_0 a0_1 a0_2 a0_3 a0_4 = some (r1, r2, r3, r4, r5)) :
  Calls Try.prog 30 #[.agg #[.int .i64 a0_0, .int .i64 a0_1, .int .i64 a0_2, .int .i64 a0_3, .int .i64 a0_4]] w fun e w' => e = .returned (.tuple #[.agg #[.int .i64 r1, .int .i64 r2], .agg #[.int .i64 r3, .int .i64 r4], .int .i64 r5]) ∧ Below w.heap.size w w' := by
 have mixed : Try.prog.follows .mixedOrders = true := by kernel_rfl
 have hu55 := Try.underlying55
 have hu57 := Try.underlying57
 have K70 := zA (fun W => punch_Paper_good.calls a0_0 a0_1 a0_2 a0_3 a0_4 _ W (paperOk_f a0_0 a0_1 a0_2 a0_3 a0_4))
 have HH := zA h
 clear h
 go_enter Try.func30, Try.ntmps30
 go_wp2_with fail
 refine (K70.out _).mono ?_
 rintro e w1 ⟨rfl, hb⟩
 have o1 : w1.heap[w.heap.size]? = some (.cells #[.int .i64 a0_0, .int .i64 a0_1, .int .i64 a0_2, .int .i64 a0_3, .int .i64 a0_4] 57 (0, 0)) :=
  blk_keep ((Below.heap_alloc _ _ _ (by simp; omega)).trans ((Below.heap_alloc _ _ _ (by simp)).trans (heap_alloc_new w _))) hb
 have o2 : w1.heap[w.heap.size + 1]? = some (.cells #[.int .i64 0, .int .i64 0] 55 (0, 0)) := by
  have := heap_alloc_new (w.alloc (.cells #[.int .i64 a0_0, .int .i64 a0_1, .int .i64 a0_2, .int .i64 a0_3, .int .i64 a0_4] 57)) (.cells #[.int .i64 0, .int .i64 0] 55)
  rw [World.size_alloc] at this
  exact blk_keep ((Below.heap_alloc _ _ _ (by simp)).trans this) hb
 have o3 : w1.heap[w.heap.size + 1 + 1]? = some (.cells #[.int .i64 0, .int .i64 0] 55 (0, 0)) := by
  have := heap_alloc_new ((w.alloc (.cells #[.int .i64 a0_0, .int .i64 a0_1, .int .i64 a0_2, .int .i64 a0_3, .int .i64 a0_4] 57)).alloc (.cells #[.int .i64 0, .int .i64 0] 55)) (.cells #[.int .i64 0, .int .i64 0] 55)
  rw [World.size_alloc, World.size_alloc] at this
  exact blk_keep this hb
 have hb1 : Below w.heap.size w w1 := (below_alloc (below_alloc (below_alloc (Below.refl _ _) _) _) _).trans (hb.mono (by simp; omega))
 obtain ⟨g1, hg1⟩ : ∃ g, g = w.heap.size := ⟨_, rfl⟩
 obtain ⟨g2, hg2⟩ : ∃ g, g = w.heap.size + 1 := ⟨_, rfl⟩
 obtain ⟨g3, hg3⟩ : ∃ g, g = w.heap.size + 1 + 1 := ⟨_, rfl⟩
 rw [← hg1] at o1
 rw [← hg2] at o2
 rw [← hg3] at o3
 have wg2 : w.heap.size ≤ g2 := by omega
 have wg3 : w.heap.size ≤ g3 := by omega
 have n12 : g1 ≠ g2 := by omega
 have n13 : g1 ≠ g3 := by omega
 have n23 : g2 ≠ g3 := by omega
 have e2 : g1 + 1 = g2 := by omega
 have e3 : g2 + 1 = g3 := by omega
 have HB := zA hb1
 have O1 := zA o1
 have O2 := zA o2
 have O3 := zA o3
 have T0 : Aside0 (Two w g2 g3 0 0 0 0 w1) := ⟨⟨O2.out, O3.out, HB.out⟩⟩
 have p0 : w1.cell? ⟨g1, 0, none⟩ = some (.int .i64 a0_0) := (blk_cell o1 0).trans rfl
 have p1 : w1.cell? ⟨g1, 1, none⟩ = some (.int .i64 a0_1) := (blk_cell o1 1).trans rfl
 have p2 : w1.cell? ⟨g1, 2, none⟩ = some (.int .i64 a0_2) := (blk_cell o1 2).trans rfl
 have p3 : w1.cell? ⟨g1, 3, none⟩ = some (.int .i64 a0_3) := (blk_cell o1 3).trans rfl
 have p4 : w1.cell? ⟨g1, 4, none⟩ = some (.int .i64 a0_4) := (blk_cell o1 4).trans rfl
 have q20 : w1.cell? ⟨g2, 0, none⟩ = some (.int .i64 0) := (blk_cell o2 0).trans rfl
 have q21 : w1.cell? ⟨g2, 1, none⟩ = some (.int .i64 0) := (blk_cell o2 1).trans rfl
 have q30 : w1.cell? ⟨g3, 0, none⟩ = some (.int .i64 0) := (blk_cell o3 0).trans rfl
 have q31 : w1.cell? ⟨g3, 1, none⟩ = some (.int .i64 0) := (blk_cell o3 1).trans rfl
 have f20 := blk_frozen o2 0
 have f21 := blk_frozen o2 1
 have f30 := blk_frozen o3 0
 have f31 := blk_frozen o3 1
 rw [← hg1]
 simp only [e2, e3]
 clear hg1 hg2 hg3 e2 e3 o1 o2 o3 hb1 hb K70
 have h := HH.out
 unfold punch_Bars.f at h
 clear HH
 by_cases cp : paperOk a0_0 a0_1 a0_2 a0_3 a0_4 = true
 ·
  rw [if_pos cp] at h
  have hp := paperOk_iff.1 cp
  rw [cp]
  have HH := zA h
  have nz : ¬ a0_1 = 0 := by omega
  have nz0 : ¬ a0_0 = 0 := by omega
  clear cp h
  go_wp2
  refine wp_region_still_tail 21 (by kernel_rfl) (by kernel_rfl) ?_
  simp only [List.take_succ_cons, List.take_zero, List.drop_succ_cons, List.drop_zero]
  change wpStill _ _ (World.drew _) (fun a' => wpList _ _ _ _ a' (World.drew _)) _ _
  (repeat still_step)
  have v1 : IntKind.i64.wrap (1000 * a0_3) = 1000 * a0_3 := (i64_w _).trans (by unfold wrap64; omega)
  have v2 : IntKind.i64.wrap (1000 * a0_3 + a0_0) = 1000 * a0_3 + a0_0 := (i64_w _).trans (by unfold wrap64; omega)
  have v3 : IntKind.i64.wrap (1000 * a0_3 + a0_0 - 1) = 1000 * a0_3 + a0_0 - 1 := (i64_w _).trans (by unfold wrap64; omega)
  have v4 : (1000 * a0_3 + a0_0 - 1).tdiv a0_0 = barLo a0_0 a0_3 := Int.tdiv_eq_ediv_of_nonneg (by omega)
  have b4 : 0 ≤ barLo a0_0 a0_3 ∧ barLo a0_0 a0_3 ≤ 1000 * a0_3 + a0_0 - 1 := ⟨Int.ediv_nonneg (by omega) (by omega), Int.ediv_le_self _ (by omega)⟩
  have v5 : IntKind.i64.wrap (barLo a0_0 a0_3) = barLo a0_0 a0_3 := (i64_w _).trans (by unfold wrap64; omega)
  have u1 : IntKind.i64.wrap (1000 * a0_4) = 1000 * a0_4 := (i64_w _).trans (by unfold wrap64; omega)
  have u2 : IntKind.i64.wrap (1000 * a0_4 - 1) = 1000 * a0_4 - 1 := (i64_w _).trans (by unfold wrap64; omega)
  have u3 : (1000 * a0_4 - 1).tdiv a0_1 = barTo a0_1 a0_4 := Int.tdiv_eq_ediv_of_nonneg (by omega)
  have b3 : 0 ≤ barTo a0_1 a0_4 ∧ barTo a0_1 a0_4 ≤ 1000 * a0_4 - 1 := ⟨Int.ediv_nonneg (by omega) (by omega), Int.ediv_le_self _ (by omega)⟩
  have u4 : IntKind.i64.wrap (barTo a0_1 a0_4) = barTo a0_1 a0_4 := (i64_w _).trans (by unfold wrap64; omega)
  have HHI : Aside0 (1000 * a0_2 / a0_1 = barHi a0_1 a0_2) := ⟨rfl⟩
  simp only [v1, v2, v3, v4, v5, u1, u2, u3, u4, HHI.out]
  obtain ⟨hi, hhi⟩ : ∃ hi, hi = barHi a0_1 a0_2 := ⟨_, rfl⟩
  obtain ⟨lo, hlo⟩ : ∃ lo, lo = barLo a0_0 a0_3 := ⟨_, rfl⟩
  obtain ⟨tp, hto⟩ : ∃ tp, tp = barTo a0_1 a0_4 := ⟨_, rfl⟩
  rw [← hhi, ← hlo, ← hto] at HH ⊢
  clear v1 v2 v3 v4 v5 u1 u2 u3 u4 HHI hhi hlo hto b4 b3 hp nz nz0
  refine wpStill_nil ?_
  have h := HH.out
  by_cases d1 : hi < 1
  ·
   rw [if_pos d1] at h
   injection h with h
   injection h with h1 h
   injection h with h2 h
   injection h with h3 h
   injection h with h4 h5
   subst h1 h2 h3 h4 h5
   clear HH
   have TW := zA (((((T0.out.set2 n23 wg2 1 hi).set3 n23 wg3 lo tp).set2 n23 wg2 0 0).set3 n23 wg3 0 0).drew)
   go_wp2
   exact fin30 rfl rfl rfl TW.out
  ·
   rw [if_neg d1] at h
   by_cases d2 : lo > tp
   ·
    rw [if_pos d2] at h
    injection h with h
    injection h with h1 h
    injection h with h2 h
    injection h with h3 h
    injection h with h4 h5
    subst h1 h2 h3 h4 h5
    clear HH
    have TW := zA ((((T0.out.set2 n23 wg2 1 hi).set3 n23 wg3 lo tp).set3 n23 wg3 0 0).drew)
    go_wp2
    clear O1 O2 O3 HB p0 p1 p2 p3 p4 q20 q21 q30 q31
    refine wp_at_world (Two w g2 g3 1 hi 0 0) TW.out ?_
    clear TW f20 f21 f30 f31
    intro W6 T6
    have c20 : W6.cell? ⟨g2, 0, none⟩ = some (.int .i64 1) := (blk_cell T6.1 0).trans rfl
    have c21 : W6.cell? ⟨g2, 1, none⟩ = some (.int .i64 hi) := (blk_cell T6.1 1).trans rfl
    have c30 : W6.cell? ⟨g3, 0, none⟩ = some (.int .i64 0) := (blk_cell T6.2.1 0).trans rfl
    have c31 : W6.cell? ⟨g3, 1, none⟩ = some (.int .i64 0) := (blk_cell T6.2.1 1).trans rfl
    have f20 := blk_frozen T6.1 0
    have f21 := blk_frozen T6.1 1
    have f30 := blk_frozen T6.2.1 0
    have f31 := blk_frozen T6.2.1 1
    have T7 := zA ((T6.set2 n23 wg2 1 hi).set3 n23 wg3 0 0)
    have T8 := T6.set2 n23 wg2 1 hi
    have e30 : (((W6.setCell ⟨g2, 0, none⟩ (.int .i64 1)).setCell ⟨g2, 1, none⟩ (.int .i64 hi)).cell? ⟨g3, 0, none⟩) = some (.int .i64 0) := (blk_cell T8.2.1 0).trans rfl
    have e31 : (((W6.setCell ⟨g2, 0, none⟩ (.int .i64 1)).setCell ⟨g2, 1, none⟩ (.int .i64 hi)).cell? ⟨g3, 1, none⟩) = some (.int .i64 0) := (blk_cell T8.2.1 1).trans rfl
    clear T6 T8
    go_region_law (fail)
    all_goals (go_wp2; first | exact fin30 rfl rfl rfl T7.out.drew | exact fin30 rfl rfl rfl T7.out)
   ·
    rw [if_neg d2] at h
    injection h with h
    injection h with h1 h
    injection h with h2 h
    injection h with h3 h
    injection h with h4 h5
    subst h1 h2 h3 h4 h5
    clear HH
    have TW := zA (((T0.out.set2 n23 wg2 1 hi).set3 n23 wg3 lo tp).drew)
    go_wp2
    clear O1 O2 O3 HB p0 p1 p2 p3 p4 q20 q21 q30 q31
    refine wp_at_world (Two w g2 g3 1 hi lo tp) TW.out ?_
    clear TW f20 f21 f30 f31
    intro W6 T6
    have c20 : W6.cell? ⟨g2, 0, none⟩ = some (.int .i64 1) := (blk_cell T6.1 0).trans rfl
    have c21 : W6.cell? ⟨g2, 1, none⟩ = some (.int .i64 hi) := (blk_cell T6.1 1).trans rfl
    have c30 : W6.cell? ⟨g3, 0, none⟩ = some (.int .i64 lo) := (blk_cell T6.2.1 0).trans rfl
    have c31 : W6.cell? ⟨g3, 1, none⟩ = some (.int .i64 tp) := (blk_cell T6.2.1 1).trans rfl
    have f20 := blk_frozen T6.1 0
    have f21 := blk_frozen T6.1 1
    have f30 := blk_frozen T6.2.1 0
    have f31 := blk_frozen T6.2.1 1
    have T7 := zA ((T6.set2 n23 wg2 1 hi).set3 n23 wg3 lo tp)
    have T8 := T6.set2 n23 wg2 1 hi
    have e30 : (((W6.setCell ⟨g2, 0, none⟩ (.int .i64 1)).setCell ⟨g2, 1, none⟩ (.int .i64 hi)).cell? ⟨g3, 0, none⟩) = some (.int .i64 lo) := (blk_cell T8.2.1 0).trans rfl
    have e31 : (((W6.setCell ⟨g2, 0, none⟩ (.int .i64 1)).setCell ⟨g2, 1, none⟩ (.int .i64 hi)).cell? ⟨g3, 1, none⟩) = some (.int .i64 tp) := (blk_cell T8.2.1 1).trans rfl
    clear T6 T8
    go_region_law (fail)
    all_goals (go_wp2; first | exact fin30 rfl rfl rfl T7.out.drew | exact fin30 rfl rfl rfl T7.out)
 ·
  rw [if_neg cp] at h
  replace cp : paperOk a0_0 a0_1 a0_2 a0_3 a0_4 = false := by simpa using cp
  rw [cp]
  injection h with h
  injection h with h1 h
  injection h with h2 h
  injection h with h3 h
  injection h with h4 h5
  subst h1 h2 h3 h4 h5
  have TW := zA ((T0.out.set2 n23 wg2 0 0).set3 n23 wg3 0 0)
  go_wp2
  exact fin30 rfl rfl rfl TW.out
end Go.Proofs.Ytegffliopblajaa.P
end
section
namespace Go.Proofs.Ytegffliopblajaa.P
open Go.RowKit Go.Proofs.YtegffliopblajaaW.PrintWords Go.Proofs.YtegffliopblajaaW.PrintLast Go.Proofs.YtegffliopblajaaW.PrintMore
attribute [local go_sem] max2_int min2_int max_two min_two max_three min_three max_four min_four
set_option linter.unusedVariables false
set_option linter.unusedSimpArgs false
mutual
def punch_Bridge.j0 : Nat → Int → Int → Int → Int → Int → Int → Int → Int → Option ((List (S47)) × Int)
  | 0, _, _, _, _, _, _, _, _ => none
  | k + 1, x9, x10, x263000, x263001, x269000, x269001, x270000, x270001 => if x10 > 200 then (punch_Bridge.j1 k x10 true x263000 x263001 x269000 x269001 x270000 x270001) else (if x10 > 1 then (if x270001 = 0 then (punch_Bridge.j1 k x10 true x263000 x263001 x269000 x269001 x270000 x270001) else (punch_Bridge.j1 k x10 (decide (x9 < (wrap64 (x10 + (wrap64 ((wrap64 (x10 - 1)) * x270000)))))) x263000 x263001 x269000 x269001 x270000 x270001)) else (punch_Bridge.j1 k x10 (decide (x9 < (wrap64 (x10 + (wrap64 ((wrap64 (x10 - 1)) * x270000)))))) x263000 x263001 x269000 x269001 x270000 x270001))
def punch_Bridge.j1 : Nat → Int → Bool → Int → Int → Int → Int → Int → Int → Option ((List (S47)) × Int)
  | 0, _, _, _, _, _, _, _, _ => none
  | k + 1, x10, x82, x263000, x263001, x269000, x269001, x270000, x270001 => if x82 = true then (some (([] : List (S47)), 20)) else (punch_Bridge.l0 k ([] : List (S47)) x263000 (wrap64 (x10 - 1)) x263000 x263001 x269000 x269001 x270000 x270001)
def punch_Bridge.l0 : Nat → List (S47) → Int → Int → Int → Int → Int → Int → Int → Int → Option ((List (S47)) × Int)
  | 0, _, _, _, _, _, _, _, _, _ => none
  | k + 1, x11, x12, x13, x263000, x263001, x269000, x269001, x270000, x270001 => if x13 ≥ 0 then ((punch_least.f k x269001 (([wrap64 ((wrap64 (x263001 - x12)) - (wrap64 (x13 * (wrap64 (x269000 + x270000)))))] : List Int))).bind fun t274 => (if x11.length < 8796093022208 then ((some (x11 ++ [(⟨x12, wrap64 (x12 + t274)⟩ : S47)] : List (S47))).bind fun y275 => (if x13 > 0 then ((punch_least.f k x270001 (([wrap64 ((wrap64 ((wrap64 (x263001 - (wrap64 (x12 + t274)))) - (wrap64 (x13 * x269000)))) - (wrap64 ((wrap64 (x13 - 1)) * x270000)))] : List Int))).bind fun t281 => (punch_Bridge.l0 k y275 (wrap64 ((wrap64 (x12 + t274)) + t281)) (wrap64 (x13 - 1)) x263000 x263001 x269000 x269001 x270000 x270001)) else (punch_Bridge.l0 k y275 (wrap64 (x12 + t274)) (wrap64 (x13 - 1)) x263000 x263001 x269000 x269001 x270000 x270001))) else (none))) else (some (x11, 0))
end
def punch_Bridge.f (k : Nat) (a0_0 : Int) (a0_1 : Int) (a0_2 : Int) (a0_3 : Int) (a0_4 : Int) (a1_0 : Int) (a1_1 : Int) : Option ((List (S47)) × Int) := (punch_Bars.f a0_0 a0_1 a0_2 a0_3 a0_4).bind fun bt263 => (if bt263.2.2.2.2 = 0 then ((punch_Slot_good.f a1_0 a1_1).bind fun t270 => (if t270 = true then (if (wrap64 (a1_1 - a1_0)) > 10000 then (some (([] : List (S47)), 3)) else (if (wrap64 (a1_1 - a1_0)) > bt263.2.1 then (if (wrap64 (bt263.2.1 + bt263.2.2.2.1)) = 0 then (none) else (punch_Bridge.j0 k (wrap64 (a1_1 - a1_0)) (wrap64 (1 + (wrap64 (Int.tdiv (wrap64 ((wrap64 ((wrap64 ((wrap64 ((wrap64 (a1_1 - a1_0)) - bt263.2.1)) + bt263.2.1)) + bt263.2.2.2.1)) - 1)) (wrap64 (bt263.2.1 + bt263.2.2.2.1)))))) a1_0 a1_1 bt263.1 bt263.2.1 bt263.2.2.1 bt263.2.2.2.1)) else (punch_Bridge.j0 k (wrap64 (a1_1 - a1_0)) 1 a1_0 a1_1 bt263.1 bt263.2.1 bt263.2.2.1 bt263.2.2.2.1))) else (some (([] : List (S47)), 3)))) else (some (([] : List (S47)), bt263.2.2.2.2)))
set_option maxHeartbeats 8000000 in
set_option maxRecDepth 100000 in
theorem punch_Bridge.calls (k : Nat) (a0_0 : Int) (a0_1 : Int) (a0_2 : Int) (a0_3 : Int) (a0_4 : Int) (a1_0 : Int) (a1_1 : Int) (r1 : List (S47)) (r2 : Int) (w : World) (h : punch_Bridge.f k a0_0 a0_1 a0_2 a0_3 a0_4 a1_0 a1_1 = some (r1, r2)) :
  Calls Try.prog 32 #[.agg #[.int .i64 a0_0, .int .i64 a0_1, .int .i64 a0_2, .int .i64 a0_3, .int .i64 a0_4], .agg #[.int .i64 a1_0, .int .i64 a1_1]] w fun e w' => ∃ v0_ : Value, e = .returned (.tuple #[v0_, .int .i64 r2]) ∧ Kd.R k47 47 w' w.heap.size (fun _ => True) v0_ r1 ∧ Below w.heap.size w w' := by
 have hu57 := Try.underlying57
 have hu47 := Try.underlying47
 have hu55 := Try.underlying55
 have HB := zA (Below.refl w.heap.size w)
 have H : ((punch_Bars.f a0_0 a0_1 a0_2 a0_3 a0_4).bind fun bt263 => (if bt263.2.2.2.2 = 0 then ((punch_Slot_good.f a1_0 a1_1).bind fun t270 => (if t270 = true then (if (wrap64 (a1_1 - a1_0)) > 10000 then (some (([] : List (S47)), 3)) else (if (wrap64 (a1_1 - a1_0)) > bt263.2.1 then (if (wrap64 (bt263.2.1 + bt263.2.2.2.1)) = 0 then (none) else (punch_Bridge.j0 k (wrap64 (a1_1 - a1_0)) (wrap64 (1 + (wrap64 (Int.tdiv (wrap64 ((wrap64 ((wrap64 ((wrap64 ((wrap64 (a1_1 - a1_0)) - bt263.2.1)) + bt263.2.1)) + bt263.2.2.2.1)) - 1)) (wrap64 (bt263.2.1 + bt263.2.2.2.1)))))) a1_0 a1_1 bt263.1 bt263.2.1 bt263.2.2.1 bt263.2.2.2.1)) else (punch_Bridge.j0 k (wrap64 (a1_1 - a1_0)) 1 a1_0 a1_1 bt263.1 bt263.2.1 bt263.2.2.1 bt263.2.2.2.1))) else (some (([] : List (S47)), 3)))) else (some (([] : List (S47)), bt263.2.2.2.2)))) = some (r1, r2) := h
 clear h
 replace H := Option.bind_eq_some_iff.mp H
 obtain ⟨⟨t263, t264, t265, t266, t267⟩, A30, H⟩ := H
 replace H : (if t267 = 0 then ((punch_Slot_good.f a1_0 a1_1).bind fun t270 => (if t270 = true then (if (wrap64 (a1_1 - a1_0)) > 10000 then (some (([] : List (S47)), 3)) else (if (wrap64 (a1_1 - a1_0)) > t264 then (if (wrap64 (t264 + t266)) = 0 then (none) else (punch_Bridge.j0 k (wrap64 (a1_1 - a1_0)) (wrap64 (1 + (wrap64 (Int.tdiv (wrap64 ((wrap64 ((wrap64 ((wrap64 ((wrap64 (a1_1 - a1_0)) - t264)) + t264)) + t266)) - 1)) (wrap64 (t264 + t266)))))) a1_0 a1_1 t263 t264 t265 t266)) else (punch_Bridge.j0 k (wrap64 (a1_1 - a1_0)) 1 a1_0 a1_1 t263 t264 t265 t266))) else (some (([] : List (S47)), 3)))) else (some (([] : List (S47)), t267))) = some (r1, r2) := H
 have A3 := zA A30
 clear A30
 by_cases c4 : t267 = 0
 ·
  rw [if_pos c4] at H
  have c4b0 : (t267 == 0) = true := beq_iff_eq.mpr c4
  have c4b1 : (t267 != 0) = false := bne_eq_false_iff_eq.mpr c4
  clear c4
  replace H := Option.bind_eq_some_iff.mp H
  obtain ⟨t270, A50, H⟩ := H
  replace H : (if t270 = true then (if (wrap64 (a1_1 - a1_0)) > 10000 then (some (([] : List (S47)), 3)) else (if (wrap64 (a1_1 - a1_0)) > t264 then (if (wrap64 (t264 + t266)) = 0 then (none) else (punch_Bridge.j0 k (wrap64 (a1_1 - a1_0)) (wrap64 (1 + (wrap64 (Int.tdiv (wrap64 ((wrap64 ((wrap64 ((wrap64 ((wrap64 (a1_1 - a1_0)) - t264)) + t264)) + t266)) - 1)) (wrap64 (t264 + t266)))))) a1_0 a1_1 t263 t264 t265 t266)) else (punch_Bridge.j0 k (wrap64 (a1_1 - a1_0)) 1 a1_0 a1_1 t263 t264 t265 t266))) else (some (([] : List (S47)), 3))) = some (r1, r2) := H
  have A5 := zA A50
  clear A50
  by_cases c6 : t270 = true
  ·
   subst c6
   have H1 : (if (wrap64 (a1_1 - a1_0)) > 10000 then (some (([] : List (S47)), 3)) else (if (wrap64 (a1_1 - a1_0)) > t264 then (if (wrap64 (t264 + t266)) = 0 then (none) else (punch_Bridge.j0 k (wrap64 (a1_1 - a1_0)) (wrap64 (1 + (wrap64 (Int.tdiv (wrap64 ((wrap64 ((wrap64 ((wrap64 ((wrap64 (a1_1 - a1_0)) - t264)) + t264)) + t266)) - 1)) (wrap64 (t264 + t266)))))) a1_0 a1_1 t263 t264 t265 t266)) else (punch_Bridge.j0 k (wrap64 (a1_1 - a1_0)) 1 a1_0 a1_1 t263 t264 t265 t266))) = some (r1, r2) := by rw [if_pos rfl] at H; exact H
   clear H; have H := H1; clear H1
   by_cases c7 : (wrap64 (a1_1 - a1_0)) > 10000
   ·
    rw [if_pos c7] at H
    have c7b0 : decide (10000 < (wrap64 (a1_1 - a1_0))) = true := decide_eq_true c7
    clear c7
    simp only [Option.some.injEq, Prod.mk.injEq] at H
    obtain ⟨rfl, rfl⟩ := H
    go_enter Try.func32, Try.ntmps32
    go_wp2_with (first | ((with_reducible refine gate_dst (N := 2) rfl ?_); refine box_event ?hg (N := 2) ?hd (cs := #[.int .i64 a0_0, .int .i64 a0_1, .int .i64 a0_2, .int .i64 a0_3, .int .i64 a0_4]) (t := 57) ?hr ?_; (case hd => rfl); (case hg => rfl); (case hr => first | (go_simp; done) | (go_simp; rfl)); intro gb261 hg w8 hbox hb; have n0_ := zA (below_step (zqA HB.out) hb); have n1_ := zA (hbox); have n2_ := zA ((by rw [hg]; exact (below_size (zqA HB.out)) : w.heap.size ≤ gb261)); have n3_ := zA ((by rw [hg]; exact (below_size (zqA HB.out)) : w.heap.size ≤ gb261)); clear HB; have HB := n0_; have BK261 := n1_; have GW261 := n2_; have GE261 := n3_; clear n0_ n1_ n2_ n3_; clear hb hbox hg) | ((with_reducible refine gate_dst (N := 3) rfl ?_); refine box_event ?hg (N := 3) ?hd (cs := #[.int .i64 a1_0, .int .i64 a1_1]) (t := 47) ?hr ?_; (case hd => rfl); (case hg => rfl); (case hr => first | (go_simp; done) | (go_simp; rfl)); intro gb262 hg w9 hbox hb; have n0_ := zA (blk_below (g := gb261) (o := .cells #[.int .i64 a0_0, .int .i64 a0_1, .int .i64 a0_2, .int .i64 a0_3, .int .i64 a0_4] 57 (0, 0)) (zqB BK261.out) hb); have n1_ := zA (below_step (zqG HB.out GE261.out) hb); have n2_ := zA (hbox); have n3_ := zA ((by rw [hg]; exact (below_size (zqG HB.out GE261.out)) : w.heap.size ≤ gb262)); have n4_ := zA ((by rw [hg]; exact (below_size (zqG HB.out GE261.out)) : w.heap.size ≤ gb262)); have n5_ := zA ((by rw [hg]; exact Nat.ne_of_lt (blk_lt (g := gb261) (o := .cells #[.int .i64 a0_0, .int .i64 a0_1, .int .i64 a0_2, .int .i64 a0_3, .int .i64 a0_4] 57 (0, 0)) (zqB BK261.out)) : gb261 ≠ gb262)); have n6_ := zA ((by rw [hg]; exact Nat.ne_of_gt (blk_lt (g := gb261) (o := .cells #[.int .i64 a0_0, .int .i64 a0_1, .int .i64 a0_2, .int .i64 a0_3, .int .i64 a0_4] 57 (0, 0)) (zqB BK261.out)) : gb262 ≠ gb261)); clear BK261; clear HB; have BK261 := n0_; have HB := n1_; have BK262 := n2_; have GW262 := n3_; have GE262 := n4_; have NB261_262 := n5_; have NB262_261 := n6_; clear n0_ n1_ n2_ n3_ n4_ n5_ n6_; clear hb hbox hg; have hnb10 := NB261_262.out; have hnc10 := NB262_261.out; have hcz11_0 : w9.cell? ⟨gb261, 0, none⟩ = some (.int .i64 a0_0) := (blk_cell BK261.out 0).trans rfl; have hcz11_1 : w9.cell? ⟨gb261, 1, none⟩ = some (.int .i64 a0_1) := (blk_cell BK261.out 1).trans rfl; have hcz11_2 : w9.cell? ⟨gb261, 2, none⟩ = some (.int .i64 a0_2) := (blk_cell BK261.out 2).trans rfl; have hcz11_3 : w9.cell? ⟨gb261, 3, none⟩ = some (.int .i64 a0_3) := (blk_cell BK261.out 3).trans rfl; have hcz11_4 : w9.cell? ⟨gb261, 4, none⟩ = some (.int .i64 a0_4) := (blk_cell BK261.out 4).trans rfl; have hfz11_0 := blk_frozen BK261.out 0; have hfz11_1 := blk_frozen BK261.out 1; have hfz11_2 := blk_frozen BK261.out 2; have hfz11_3 := blk_frozen BK261.out 3; have hfz11_4 := blk_frozen BK261.out 4) | ((with_reducible refine gate_callee (f := 30) rfl ?_); refine goesL_ (some 17) rfl rfl Try.func30 (by kernel_rfl) rfl #[.agg #[.int .i64 a0_0, .int .i64 a0_1, .int .i64 a0_2, .int .i64 a0_3, .int .i64 a0_4]] rfl zqE ?_; (with_reducible refine (punch_Bars.calls a0_0 a0_1 a0_2 a0_3 a0_4 t263 t264 t265 t266 t267 _ A3.out).mono ?_); rintro e w12 ⟨rfl, hb⟩; refine ⟨_, rfl, ?_⟩; have n0_ := zA (blk_below (g := gb261) (o := .cells #[.int .i64 a0_0, .int .i64 a0_1, .int .i64 a0_2, .int .i64 a0_3, .int .i64 a0_4] 57 (0, 0)) (zqB BK261.out) hb); have n1_ := zA (blk_below (g := gb262) (o := .cells #[.int .i64 a1_0, .int .i64 a1_1] 47 (0, 0)) (zqB BK262.out) hb); have n2_ := zA (below_step (zqH HB.out GE261.out GE262.out) hb); clear BK261; clear BK262; clear HB; have BK261 := n0_; have BK262 := n1_; have HB := n2_; clear n0_ n1_ n2_; (try clear hb); (try clear hb2); (try clear hk); (try clear hi)) | ((with_reducible refine gate_dst (N := 6) rfl ?_); refine box_event ?hg (N := 6) ?hd (cs := #[.int .i64 0, .int .i64 0]) (t := 55) ?hr ?_; (case hd => rfl); (case hg => rfl); (case hr => first | (go_simp; done) | (go_simp; rfl)); intro gb268 hg w13 hbox hb; have n0_ := zA (blk_below (g := gb261) (o := .cells #[.int .i64 a0_0, .int .i64 a0_1, .int .i64 a0_2, .int .i64 a0_3, .int .i64 a0_4] 57 (0, 0)) (zqB BK261.out) hb); have n1_ := zA (blk_below (g := gb262) (o := .cells #[.int .i64 a1_0, .int .i64 a1_1] 47 (0, 0)) (zqB BK262.out) hb); have n2_ := zA (below_step (zqH HB.out GE261.out GE262.out) hb); have n3_ := zA (hbox); have n4_ := zA ((by rw [hg]; exact (below_size (zqH HB.out GE261.out GE262.out)) : w.heap.size ≤ gb268)); have n5_ := zA ((by rw [hg]; exact (below_size (zqH HB.out GE261.out GE262.out)) : w.heap.size ≤ gb268)); have n6_ := zA ((by rw [hg]; exact Nat.ne_of_lt (blk_lt (g := gb261) (o := .cells #[.int .i64 a0_0, .int .i64 a0_1, .int .i64 a0_2, .int .i64 a0_3, .int .i64 a0_4] 57 (0, 0)) (zqB BK261.out)) : gb261 ≠ gb268)); have n7_ := zA ((by rw [hg]; exact Nat.ne_of_gt (blk_lt (g := gb261) (o := .cells #[.int .i64 a0_0, .int .i64 a0_1, .int .i64 a0_2, .int .i64 a0_3, .int .i64 a0_4] 57 (0, 0)) (zqB BK261.out)) : gb268 ≠ gb261)); have n8_ := zA ((by rw [hg]; exact Nat.ne_of_lt (blk_lt (g := gb262) (o := .cells #[.int .i64 a1_0, .int .i64 a1_1] 47 (0, 0)) (zqB BK262.out)) : gb262 ≠ gb268)); have n9_ := zA ((by rw [hg]; exact Nat.ne_of_gt (blk_lt (g := gb262) (o := .cells #[.int .i64 a1_0, .int .i64 a1_1] 47 (0, 0)) (zqB BK262.out)) : gb268 ≠ gb262)); clear BK261; clear BK262; clear HB; have BK261 := n0_; have BK262 := n1_; have HB := n2_; have BK268 := n3_; have GW268 := n4_; have GE268 := n5_; have NB261_268 := n6_; have NB268_261 := n7_; have NB262_268 := n8_; have NB268_262 := n9_; clear n0_ n1_ n2_ n3_ n4_ n5_ n6_ n7_ n8_ n9_; clear hb hbox hg) | ((with_reducible refine gate_dst (N := 7) rfl ?_); refine box_event ?hg (N := 7) ?hd (cs := #[.int .i64 0, .int .i64 0]) (t := 55) ?hr ?_; (case hd => rfl); (case hg => rfl); (case hr => first | (go_simp; done) | (go_simp; rfl)); intro gb269 hg w14 hbox hb; have n0_ := zA (blk_below (g := gb261) (o := .cells #[.int .i64 a0_0, .int .i64 a0_1, .int .i64 a0_2, .int .i64 a0_3, .int .i64 a0_4] 57 (0, 0)) (zqB BK261.out) hb); have n1_ := zA (blk_below (g := gb262) (o := .cells #[.int .i64 a1_0, .int .i64 a1_1] 47 (0, 0)) (zqB BK262.out) hb); have n2_ := zA (blk_below (g := gb268) (o := .cells #[.int .i64 0, .int .i64 0] 55 (0, 0)) (zqB BK268.out) hb); have n3_ := zA (below_step (zqI HB.out GE261.out GE262.out GE268.out) hb); have n4_ := zA (hbox); have n5_ := zA ((by rw [hg]; exact (below_size (zqI HB.out GE261.out GE262.out GE268.out)) : w.heap.size ≤ gb269)); have n6_ := zA ((by rw [hg]; exact (below_size (zqI HB.out GE261.out GE262.out GE268.out)) : w.heap.size ≤ gb269)); have n7_ := zA ((by rw [hg]; exact Nat.ne_of_lt (blk_lt (g := gb261) (o := .cells #[.int .i64 a0_0, .int .i64 a0_1, .int .i64 a0_2, .int .i64 a0_3, .int .i64 a0_4] 57 (0, 0)) (zqB BK261.out)) : gb261 ≠ gb269)); have n8_ := zA ((by rw [hg]; exact Nat.ne_of_gt (blk_lt (g := gb261) (o := .cells #[.int .i64 a0_0, .int .i64 a0_1, .int .i64 a0_2, .int .i64 a0_3, .int .i64 a0_4] 57 (0, 0)) (zqB BK261.out)) : gb269 ≠ gb261)); have n9_ := zA ((by rw [hg]; exact Nat.ne_of_lt (blk_lt (g := gb262) (o := .cells #[.int .i64 a1_0, .int .i64 a1_1] 47 (0, 0)) (zqB BK262.out)) : gb262 ≠ gb269)); have n10_ := zA ((by rw [hg]; exact Nat.ne_of_gt (blk_lt (g := gb262) (o := .cells #[.int .i64 a1_0, .int .i64 a1_1] 47 (0, 0)) (zqB BK262.out)) : gb269 ≠ gb262)); have n11_ := zA ((by rw [hg]; exact Nat.ne_of_lt (blk_lt (g := gb268) (o := .cells #[.int .i64 0, .int .i64 0] 55 (0, 0)) (zqB BK268.out)) : gb268 ≠ gb269)); have n12_ := zA ((by rw [hg]; exact Nat.ne_of_gt (blk_lt (g := gb268) (o := .cells #[.int .i64 0, .int .i64 0] 55 (0, 0)) (zqB BK268.out)) : gb269 ≠ gb268)); clear BK261; clear BK262; clear BK268; clear HB; have BK261 := n0_; have BK262 := n1_; have BK268 := n2_; have HB := n3_; have BK269 := n4_; have GW269 := n5_; have GE269 := n6_; have NB261_269 := n7_; have NB269_261 := n8_; have NB262_269 := n9_; have NB269_262 := n10_; have NB268_269 := n11_; have NB269_268 := n12_; clear n0_ n1_ n2_ n3_ n4_ n5_ n6_ n7_ n8_ n9_ n10_ n11_ n12_; clear hb hbox hg; have hnb15 := NB268_261.out; have hnc15 := NB261_268.out; have hnb16 := NB268_262.out; have hnc16 := NB262_268.out; have hnb17 := NB268_269.out; have hnc17 := NB269_268.out; have hcz18_0 : w14.cell? ⟨gb268, 0, none⟩ = some (.int .i64 0) := (blk_cell BK268.out 0).trans rfl; have hcz18_1 : w14.cell? ⟨gb268, 1, none⟩ = some (.int .i64 0) := (blk_cell BK268.out 1).trans rfl; have hfz18_0 := blk_frozen BK268.out 0; have hfz18_1 := blk_frozen BK268.out 1; have hnb19 := NB269_261.out; have hnc19 := NB261_269.out; have hnb20 := NB269_262.out; have hnc20 := NB262_269.out; have hcz21_0 : w14.cell? ⟨gb269, 0, none⟩ = some (.int .i64 0) := (blk_cell BK269.out 0).trans rfl; have hcz21_1 : w14.cell? ⟨gb269, 1, none⟩ = some (.int .i64 0) := (blk_cell BK269.out 1).trans rfl; have hfz21_0 := blk_frozen BK269.out 0; have hfz21_1 := blk_frozen BK269.out 1; have hcz22_0 : w14.cell? ⟨gb262, 0, none⟩ = some (.int .i64 a1_0) := (blk_cell BK262.out 0).trans rfl; have hcz22_1 : w14.cell? ⟨gb262, 1, none⟩ = some (.int .i64 a1_1) := (blk_cell BK262.out 1).trans rfl; have hfz22_0 := blk_frozen BK262.out 0; have hfz22_1 := blk_frozen BK262.out 1) | ((with_reducible refine gate_callee (f := 54) rfl ?_); refine goesL_ (some 32) rfl rfl Try.func54 (by kernel_rfl) rfl #[.agg #[.int .i64 a1_0, .int .i64 a1_1]] rfl zqE ?_; (with_reducible refine (punch_Slot_good.calls a1_0 a1_1 true _ A5.out).mono ?_); rintro e w23 ⟨rfl, hb⟩; refine ⟨_, rfl, ?_⟩; have n0_ := zA (blk_below (g := gb261) (o := .cells #[.int .i64 a0_0, .int .i64 a0_1, .int .i64 a0_2, .int .i64 a0_3, .int .i64 a0_4] 57 (0, 0)) (by (with_reducible repeat (first | refine blk_drewN ?_ _ | refine blk_drew ?_ | refine blk_alloc ?_ _)); refine blk_far ?_ NB261_269.out _; (with_reducible repeat (first | refine blk_drewN ?_ _ | refine blk_drew ?_ | refine blk_alloc ?_ _)); refine blk_far ?_ NB261_269.out _; (with_reducible repeat (first | refine blk_drewN ?_ _ | refine blk_drew ?_ | refine blk_alloc ?_ _)); refine blk_far ?_ NB261_268.out _; (with_reducible repeat (first | refine blk_drewN ?_ _ | refine blk_drew ?_ | refine blk_alloc ?_ _)); refine blk_far ?_ NB261_268.out _; (with_reducible repeat (first | refine blk_drewN ?_ _ | refine blk_drew ?_ | refine blk_alloc ?_ _)); exact BK261.out) hb); have n1_ := zA (blk_below (g := gb262) (o := .cells #[.int .i64 a1_0, .int .i64 a1_1] 47 (0, 0)) (by (with_reducible repeat (first | refine blk_drewN ?_ _ | refine blk_drew ?_ | refine blk_alloc ?_ _)); refine blk_far ?_ NB262_269.out _; (with_reducible repeat (first | refine blk_drewN ?_ _ | refine blk_drew ?_ | refine blk_alloc ?_ _)); refine blk_far ?_ NB262_269.out _; (with_reducible repeat (first | refine blk_drewN ?_ _ | refine blk_drew ?_ | refine blk_alloc ?_ _)); refine blk_far ?_ NB262_268.out _; (with_reducible repeat (first | refine blk_drewN ?_ _ | refine blk_drew ?_ | refine blk_alloc ?_ _)); refine blk_far ?_ NB262_268.out _; (with_reducible repeat (first | refine blk_drewN ?_ _ | refine blk_drew ?_ | refine blk_alloc ?_ _)); exact BK262.out) hb); have n2_ := zA (blk_below (g := gb268) (o := .cells #[.int .i64 t263, .int .i64 t264] 55 (0, 0)) (by (with_reducible repeat (first | refine blk_drewN ?_ _ | refine blk_drew ?_ | refine blk_alloc ?_ _)); refine blk_far ?_ NB268_269.out _; (with_reducible repeat (first | refine blk_drewN ?_ _ | refine blk_drew ?_ | refine blk_alloc ?_ _)); refine blk_far ?_ NB268_269.out _; (with_reducible repeat (first | refine blk_drewN ?_ _ | refine blk_drew ?_ | refine blk_alloc ?_ _)); refine blk_put (cs := #[.int .i64 t263, .int .i64 0]) ?_ 1 _ rfl; (with_reducible repeat (first | refine blk_drewN ?_ _ | refine blk_drew ?_ | refine blk_alloc ?_ _)); refine blk_put (cs := #[.int .i64 0, .int .i64 0]) ?_ 0 _ rfl; (with_reducible repeat (first | refine blk_drewN ?_ _ | refine blk_drew ?_ | refine blk_alloc ?_ _)); exact BK268.out) hb); have n3_ := zA (blk_below (g := gb269) (o := .cells #[.int .i64 t265, .int .i64 t266] 55 (0, 0)) (by (with_reducible repeat (first | refine blk_drewN ?_ _ | refine blk_drew ?_ | refine blk_alloc ?_ _)); refine blk_put (cs := #[.int .i64 t265, .int .i64 0]) ?_ 1 _ rfl; (with_reducible repeat (first | refine blk_drewN ?_ _ | refine blk_drew ?_ | refine blk_alloc ?_ _)); refine blk_put (cs := #[.int .i64 0, .int .i64 0]) ?_ 0 _ rfl; (with_reducible repeat (first | refine blk_drewN ?_ _ | refine blk_drew ?_ | refine blk_alloc ?_ _)); refine blk_far ?_ NB269_268.out _; (with_reducible repeat (first | refine blk_drewN ?_ _ | refine blk_drew ?_ | refine blk_alloc ?_ _)); refine blk_far ?_ NB269_268.out _; (with_reducible repeat (first | refine blk_drewN ?_ _ | refine blk_drew ?_ | refine blk_alloc ?_ _)); exact BK269.out) hb); have n4_ := zA (below_step (zqJ HB.out GE261.out GE262.out GE268.out GE269.out) hb); clear BK261; clear BK262; clear BK268; clear BK269; clear HB; have BK261 := n0_; have BK262 := n1_; have BK268 := n2_; have BK269 := n3_; have HB := n4_; clear n0_ n1_ n2_ n3_ n4_; (try clear hb); (try clear hb2); (try clear hk); (try clear hi)))
    go_ret2
    exact ⟨_, zqR, by first | exact Kd.R_nil _ _ _ _ _ | exact Kd.N_nil _ _ _ _ _ | exact Kd.V_nil _ _ _ _ _ | exact Kd.Q_nil _ _ _ _ _ | exact Kd.S_nil _ _ _ _ _, zqJ HB.out GE261.out GE262.out GE268.out GE269.out⟩
   ·
    rw [if_neg c7] at H
    have c7b0 : decide (10000 < (wrap64 (a1_1 - a1_0))) = false := decide_eq_false c7
    clear c7
    have HC24 := zA H
    clear H
    go_enter Try.func32, Try.ntmps32
    go_upto_if 41 with (first | ((with_reducible refine gate_dst (N := 2) rfl ?_); refine box_event ?hg (N := 2) ?hd (cs := #[.int .i64 a0_0, .int .i64 a0_1, .int .i64 a0_2, .int .i64 a0_3, .int .i64 a0_4]) (t := 57) ?hr ?_; (case hd => rfl); (case hg => rfl); (case hr => first | (go_simp; done) | (go_simp; rfl)); intro gb261 hg w25 hbox hb; have n0_ := zA (below_step (zqA HB.out) hb); have n1_ := zA (hbox); have n2_ := zA ((by rw [hg]; exact (below_size (zqA HB.out)) : w.heap.size ≤ gb261)); have n3_ := zA ((by rw [hg]; exact (below_size (zqA HB.out)) : w.heap.size ≤ gb261)); clear HB; have HB := n0_; have BK261 := n1_; have GW261 := n2_; have GE261 := n3_; clear n0_ n1_ n2_ n3_; clear hb hbox hg) | ((with_reducible refine gate_dst (N := 3) rfl ?_); refine box_event ?hg (N := 3) ?hd (cs := #[.int .i64 a1_0, .int .i64 a1_1]) (t := 47) ?hr ?_; (case hd => rfl); (case hg => rfl); (case hr => first | (go_simp; done) | (go_simp; rfl)); intro gb262 hg w26 hbox hb; have n0_ := zA (blk_below (g := gb261) (o := .cells #[.int .i64 a0_0, .int .i64 a0_1, .int .i64 a0_2, .int .i64 a0_3, .int .i64 a0_4] 57 (0, 0)) (zqB BK261.out) hb); have n1_ := zA (below_step (zqG HB.out GE261.out) hb); have n2_ := zA (hbox); have n3_ := zA ((by rw [hg]; exact (below_size (zqG HB.out GE261.out)) : w.heap.size ≤ gb262)); have n4_ := zA ((by rw [hg]; exact (below_size (zqG HB.out GE261.out)) : w.heap.size ≤ gb262)); have n5_ := zA ((by rw [hg]; exact Nat.ne_of_lt (blk_lt (g := gb261) (o := .cells #[.int .i64 a0_0, .int .i64 a0_1, .int .i64 a0_2, .int .i64 a0_3, .int .i64 a0_4] 57 (0, 0)) (zqB BK261.out)) : gb261 ≠ gb262)); have n6_ := zA ((by rw [hg]; exact Nat.ne_of_gt (blk_lt (g := gb261) (o := .cells #[.int .i64 a0_0, .int .i64 a0_1, .int .i64 a0_2, .int .i64 a0_3, .int .i64 a0_4] 57 (0, 0)) (zqB BK261.out)) : gb262 ≠ gb261)); clear BK261; clear HB; have BK261 := n0_; have HB := n1_; have BK262 := n2_; have GW262 := n3_; have GE262 := n4_; have NB261_262 := n5_; have NB262_261 := n6_; clear n0_ n1_ n2_ n3_ n4_ n5_ n6_; clear hb hbox hg; have hnb27 := NB261_262.out; have hnc27 := NB262_261.out; have hcz28_0 : w26.cell? ⟨gb261, 0, none⟩ = some (.int .i64 a0_0) := (blk_cell BK261.out 0).trans rfl; have hcz28_1 : w26.cell? ⟨gb261, 1, none⟩ = some (.int .i64 a0_1) := (blk_cell BK261.out 1).trans rfl; have hcz28_2 : w26.cell? ⟨gb261, 2, none⟩ = some (.int .i64 a0_2) := (blk_cell BK261.out 2).trans rfl; have hcz28_3 : w26.cell? ⟨gb261, 3, none⟩ = some (.int .i64 a0_3) := (blk_cell BK261.out 3).trans rfl; have hcz28_4 : w26.cell? ⟨gb261, 4, none⟩ = some (.int .i64 a0_4) := (blk_cell BK261.out 4).trans rfl; have hfz28_0 := blk_frozen BK261.out 0; have hfz28_1 := blk_frozen BK261.out 1; have hfz28_2 := blk_frozen BK261.out 2; have hfz28_3 := blk_frozen BK261.out 3; have hfz28_4 := blk_frozen BK261.out 4) | ((with_reducible refine gate_callee (f := 30) rfl ?_); refine goesL_ (some 17) rfl rfl Try.func30 (by kernel_rfl) rfl #[.agg #[.int .i64 a0_0, .int .i64 a0_1, .int .i64 a0_2, .int .i64 a0_3, .int .i64 a0_4]] rfl zqE ?_; (with_reducible refine (punch_Bars.calls a0_0 a0_1 a0_2 a0_3 a0_4 t263 t264 t265 t266 t267 _ A3.out).mono ?_); rintro e w29 ⟨rfl, hb⟩; refine ⟨_, rfl, ?_⟩; have n0_ := zA (blk_below (g := gb261) (o := .cells #[.int .i64 a0_0, .int .i64 a0_1, .int .i64 a0_2, .int .i64 a0_3, .int .i64 a0_4] 57 (0, 0)) (zqB BK261.out) hb); have n1_ := zA (blk_below (g := gb262) (o := .cells #[.int .i64 a1_0, .int .i64 a1_1] 47 (0, 0)) (zqB BK262.out) hb); have n2_ := zA (below_step (zqH HB.out GE261.out GE262.out) hb); clear BK261; clear BK262; clear HB; have BK261 := n0_; have BK262 := n1_; have HB := n2_; clear n0_ n1_ n2_; (try clear hb); (try clear hb2); (try clear hk); (try clear hi)) | ((with_reducible refine gate_dst (N := 6) rfl ?_); refine box_event ?hg (N := 6) ?hd (cs := #[.int .i64 0, .int .i64 0]) (t := 55) ?hr ?_; (case hd => rfl); (case hg => rfl); (case hr => first | (go_simp; done) | (go_simp; rfl)); intro gb268 hg w30 hbox hb; have n0_ := zA (blk_below (g := gb261) (o := .cells #[.int .i64 a0_0, .int .i64 a0_1, .int .i64 a0_2, .int .i64 a0_3, .int .i64 a0_4] 57 (0, 0)) (zqB BK261.out) hb); have n1_ := zA (blk_below (g := gb262) (o := .cells #[.int .i64 a1_0, .int .i64 a1_1] 47 (0, 0)) (zqB BK262.out) hb); have n2_ := zA (below_step (zqH HB.out GE261.out GE262.out) hb); have n3_ := zA (hbox); have n4_ := zA ((by rw [hg]; exact (below_size (zqH HB.out GE261.out GE262.out)) : w.heap.size ≤ gb268)); have n5_ := zA ((by rw [hg]; exact (below_size (zqH HB.out GE261.out GE262.out)) : w.heap.size ≤ gb268)); have n6_ := zA ((by rw [hg]; exact Nat.ne_of_lt (blk_lt (g := gb261) (o := .cells #[.int .i64 a0_0, .int .i64 a0_1, .int .i64 a0_2, .int .i64 a0_3, .int .i64 a0_4] 57 (0, 0)) (zqB BK261.out)) : gb261 ≠ gb268)); have n7_ := zA ((by rw [hg]; exact Nat.ne_of_gt (blk_lt (g := gb261) (o := .cells #[.int .i64 a0_0, .int .i64 a0_1, .int .i64 a0_2, .int .i64 a0_3, .int .i64 a0_4] 57 (0, 0)) (zqB BK261.out)) : gb268 ≠ gb261)); have n8_ := zA ((by rw [hg]; exact Nat.ne_of_lt (blk_lt (g := gb262) (o := .cells #[.int .i64 a1_0, .int .i64 a1_1] 47 (0, 0)) (zqB BK262.out)) : gb262 ≠ gb268)); have n9_ := zA ((by rw [hg]; exact Nat.ne_of_gt (blk_lt (g := gb262) (o := .cells #[.int .i64 a1_0, .int .i64 a1_1] 47 (0, 0)) (zqB BK262.out)) : gb268 ≠ gb262)); clear BK261; clear BK262; clear HB; have BK261 := n0_; have BK262 := n1_; have HB := n2_; have BK268 := n3_; have GW268 := n4_; have GE268 := n5_; have NB261_268 := n6_; have NB268_261 := n7_; have NB262_268 := n8_; have NB268_262 := n9_; clear n0_ n1_ n2_ n3_ n4_ n5_ n6_ n7_ n8_ n9_; clear hb hbox hg) | ((with_reducible refine gate_dst (N := 7) rfl ?_); refine box_event ?hg (N := 7) ?hd (cs := #[.int .i64 0, .int .i64 0]) (t := 55) ?hr ?_; (case hd => rfl); (case hg => rfl); (case hr => first | (go_simp; done) | (go_simp; rfl)); intro gb269 hg w31 hbox hb; have n0_ := zA (blk_below (g := gb261) (o := .cells #[.int .i64 a0_0, .int .i64 a0_1, .int .i64 a0_2, .int .i64 a0_3, .int .i64 a0_4] 57 (0, 0)) (zqB BK261.out) hb); have n1_ := zA (blk_below (g := gb262) (o := .cells #[.int .i64 a1_0, .int .i64 a1_1] 47 (0, 0)) (zqB BK262.out) hb); have n2_ := zA (blk_below (g := gb268) (o := .cells #[.int .i64 0, .int .i64 0] 55 (0, 0)) (zqB BK268.out) hb); have n3_ := zA (below_step (zqI HB.out GE261.out GE262.out GE268.out) hb); have n4_ := zA (hbox); have n5_ := zA ((by rw [hg]; exact (below_size (zqI HB.out GE261.out GE262.out GE268.out)) : w.heap.size ≤ gb269)); have n6_ := zA ((by rw [hg]; exact (below_size (zqI HB.out GE261.out GE262.out GE268.out)) : w.heap.size ≤ gb269)); have n7_ := zA ((by rw [hg]; exact Nat.ne_of_lt (blk_lt (g := gb261) (o := .cells #[.int .i64 a0_0, .int .i64 a0_1, .int .i64 a0_2, .int .i64 a0_3, .int .i64 a0_4] 57 (0, 0)) (zqB BK261.out)) : gb261 ≠ gb269)); have n8_ := zA ((by rw [hg]; exact Nat.ne_of_gt (blk_lt (g := gb261) (o := .cells #[.int .i64 a0_0, .int .i64 a0_1, .int .i64 a0_2, .int .i64 a0_3, .int .i64 a0_4] 57 (0, 0)) (zqB BK261.out)) : gb269 ≠ gb261)); have n9_ := zA ((by rw [hg]; exact Nat.ne_of_lt (blk_lt (g := gb262) (o := .cells #[.int .i64 a1_0, .int .i64 a1_1] 47 (0, 0)) (zqB BK262.out)) : gb262 ≠ gb269)); have n10_ := zA ((by rw [hg]; exact Nat.ne_of_gt (blk_lt (g := gb262) (o := .cells #[.int .i64 a1_0, .int .i64 a1_1] 47 (0, 0)) (zqB BK262.out)) : gb269 ≠ gb262)); have n11_ := zA ((by rw [hg]; exact Nat.ne_of_lt (blk_lt (g := gb268) (o := .cells #[.int .i64 0, .int .i64 0] 55 (0, 0)) (zqB BK268.out)) : gb268 ≠ gb269)); have n12_ := zA ((by rw [hg]; exact Nat.ne_of_gt (blk_lt (g := gb268) (o := .cells #[.int .i64 0, .int .i64 0] 55 (0, 0)) (zqB BK268.out)) : gb269 ≠ gb268)); clear BK261; clear BK262; clear BK268; clear HB; have BK261 := n0_; have BK262 := n1_; have BK268 := n2_; have HB := n3_; have BK269 := n4_; have GW269 := n5_; have GE269 := n6_; have NB261_269 := n7_; have NB269_261 := n8_; have NB262_269 := n9_; have NB269_262 := n10_; have NB268_269 := n11_; have NB269_268 := n12_; clear n0_ n1_ n2_ n3_ n4_ n5_ n6_ n7_ n8_ n9_ n10_ n11_ n12_; clear hb hbox hg; have hnb32 := NB268_261.out; have hnc32 := NB261_268.out; have hnb33 := NB268_262.out; have hnc33 := NB262_268.out; have hnb34 := NB268_269.out; have hnc34 := NB269_268.out; have hcz35_0 : w31.cell? ⟨gb268, 0, none⟩ = some (.int .i64 0) := (blk_cell BK268.out 0).trans rfl; have hcz35_1 : w31.cell? ⟨gb268, 1, none⟩ = some (.int .i64 0) := (blk_cell BK268.out 1).trans rfl; have hfz35_0 := blk_frozen BK268.out 0; have hfz35_1 := blk_frozen BK268.out 1; have hnb36 := NB269_261.out; have hnc36 := NB261_269.out; have hnb37 := NB269_262.out; have hnc37 := NB262_269.out; have hcz38_0 : w31.cell? ⟨gb269, 0, none⟩ = some (.int .i64 0) := (blk_cell BK269.out 0).trans rfl; have hcz38_1 : w31.cell? ⟨gb269, 1, none⟩ = some (.int .i64 0) := (blk_cell BK269.out 1).trans rfl; have hfz38_0 := blk_frozen BK269.out 0; have hfz38_1 := blk_frozen BK269.out 1; have hcz39_0 : w31.cell? ⟨gb262, 0, none⟩ = some (.int .i64 a1_0) := (blk_cell BK262.out 0).trans rfl; have hcz39_1 : w31.cell? ⟨gb262, 1, none⟩ = some (.int .i64 a1_1) := (blk_cell BK262.out 1).trans rfl; have hfz39_0 := blk_frozen BK262.out 0; have hfz39_1 := blk_frozen BK262.out 1) | ((with_reducible refine gate_callee (f := 54) rfl ?_); refine goesL_ (some 32) rfl rfl Try.func54 (by kernel_rfl) rfl #[.agg #[.int .i64 a1_0, .int .i64 a1_1]] rfl zqE ?_; (with_reducible refine (punch_Slot_good.calls a1_0 a1_1 true _ A5.out).mono ?_); rintro e w40 ⟨rfl, hb⟩; refine ⟨_, rfl, ?_⟩; have n0_ := zA (blk_below (g := gb261) (o := .cells #[.int .i64 a0_0, .int .i64 a0_1, .int .i64 a0_2, .int .i64 a0_3, .int .i64 a0_4] 57 (0, 0)) (by (with_reducible repeat (first | refine blk_drewN ?_ _ | refine blk_drew ?_ | refine blk_alloc ?_ _)); refine blk_far ?_ NB261_269.out _; (with_reducible repeat (first | refine blk_drewN ?_ _ | refine blk_drew ?_ | refine blk_alloc ?_ _)); refine blk_far ?_ NB261_269.out _; (with_reducible repeat (first | refine blk_drewN ?_ _ | refine blk_drew ?_ | refine blk_alloc ?_ _)); refine blk_far ?_ NB261_268.out _; (with_reducible repeat (first | refine blk_drewN ?_ _ | refine blk_drew ?_ | refine blk_alloc ?_ _)); refine blk_far ?_ NB261_268.out _; (with_reducible repeat (first | refine blk_drewN ?_ _ | refine blk_drew ?_ | refine blk_alloc ?_ _)); exact BK261.out) hb); have n1_ := zA (blk_below (g := gb262) (o := .cells #[.int .i64 a1_0, .int .i64 a1_1] 47 (0, 0)) (by (with_reducible repeat (first | refine blk_drewN ?_ _ | refine blk_drew ?_ | refine blk_alloc ?_ _)); refine blk_far ?_ NB262_269.out _; (with_reducible repeat (first | refine blk_drewN ?_ _ | refine blk_drew ?_ | refine blk_alloc ?_ _)); refine blk_far ?_ NB262_269.out _; (with_reducible repeat (first | refine blk_drewN ?_ _ | refine blk_drew ?_ | refine blk_alloc ?_ _)); refine blk_far ?_ NB262_268.out _; (with_reducible repeat (first | refine blk_drewN ?_ _ | refine blk_drew ?_ | refine blk_alloc ?_ _)); refine blk_far ?_ NB262_268.out _; (with_reducible repeat (first | refine blk_drewN ?_ _ | refine blk_drew ?_ | refine blk_alloc ?_ _)); exact BK262.out) hb); have n2_ := zA (blk_below (g := gb268) (o := .cells #[.int .i64 t263, .int .i64 t264] 55 (0, 0)) (by (with_reducible repeat (first | refine blk_drewN ?_ _ | refine blk_drew ?_ | refine blk_alloc ?_ _)); refine blk_far ?_ NB268_269.out _; (with_reducible repeat (first | refine blk_drewN ?_ _ | refine blk_drew ?_ | refine blk_alloc ?_ _)); refine blk_far ?_ NB268_269.out _; (with_reducible repeat (first | refine blk_drewN ?_ _ | refine blk_drew ?_ | refine blk_alloc ?_ _)); refine blk_put (cs := #[.int .i64 t263, .int .i64 0]) ?_ 1 _ rfl; (with_reducible repeat (first | refine blk_drewN ?_ _ | refine blk_drew ?_ | refine blk_alloc ?_ _)); refine blk_put (cs := #[.int .i64 0, .int .i64 0]) ?_ 0 _ rfl; (with_reducible repeat (first | refine blk_drewN ?_ _ | refine blk_drew ?_ | refine blk_alloc ?_ _)); exact BK268.out) hb); have n3_ := zA (blk_below (g := gb269) (o := .cells #[.int .i64 t265, .int .i64 t266] 55 (0, 0)) (by (with_reducible repeat (first | refine blk_drewN ?_ _ | refine blk_drew ?_ | refine blk_alloc ?_ _)); refine blk_put (cs := #[.int .i64 t265, .int .i64 0]) ?_ 1 _ rfl; (with_reducible repeat (first | refine blk_drewN ?_ _ | refine blk_drew ?_ | refine blk_alloc ?_ _)); refine blk_put (cs := #[.int .i64 0, .int .i64 0]) ?_ 0 _ rfl; (with_reducible repeat (first | refine blk_drewN ?_ _ | refine blk_drew ?_ | refine blk_alloc ?_ _)); refine blk_far ?_ NB269_268.out _; (with_reducible repeat (first | refine blk_drewN ?_ _ | refine blk_drew ?_ | refine blk_alloc ?_ _)); refine blk_far ?_ NB269_268.out _; (with_reducible repeat (first | refine blk_drewN ?_ _ | refine blk_drew ?_ | refine blk_alloc ?_ _)); exact BK269.out) hb); have n4_ := zA (below_step (zqJ HB.out GE261.out GE262.out GE268.out GE269.out) hb); clear BK261; clear BK262; clear BK268; clear BK269; clear HB; have BK261 := n0_; have BK262 := n1_; have BK268 := n2_; have BK269 := n3_; have HB := n4_; clear n0_ n1_ n2_ n3_ n4_; (try clear hb); (try clear hb2); (try clear hk); (try clear hi); have hcz41_0 : w40.cell? ⟨gb268, 0, none⟩ = some (.int .i64 t263) := (blk_cell BK268.out 0).trans rfl; have hcz41_1 : w40.cell? ⟨gb268, 1, none⟩ = some (.int .i64 t264) := (blk_cell BK268.out 1).trans rfl; have hfz41_0 := blk_frozen BK268.out 0; have hfz41_1 := blk_frozen BK268.out 1))
    (try simp only [Act.put, List.setIfInBounds_toArray, List.set_cons_zero, List.set_cons_succ])
    go_cut [10] (fun v10 wc => ∃ (kq : Nat) (x10_23 : Int), v10 = .int .i64 x10_23 ∧ Aside0 (punch_Bridge.j0 kq (wrap64 (a1_1 - a1_0)) x10_23 a1_0 a1_1 t263 t264 t265 t266 = some (r1, r2)) ∧ Aside0 (kq ≤ k) ∧ Aside0 (wc.heap[gb261]? = some (.cells #[.int .i64 a0_0, .int .i64 a0_1, .int .i64 a0_2, .int .i64 a0_3, .int .i64 a0_4] 57 (0, 0))) ∧ Aside0 (wc.heap[gb262]? = some (.cells #[.int .i64 a1_0, .int .i64 a1_1] 47 (0, 0))) ∧ Aside0 (wc.heap[gb268]? = some (.cells #[.int .i64 t263, .int .i64 t264] 55 (0, 0))) ∧ Aside0 (wc.heap[gb269]? = some (.cells #[.int .i64 t265, .int .i64 t266] 55 (0, 0))) ∧ Aside0 (Below w.heap.size w wc))
    case first =>
     have H := HC24.out
     clear HC24
     by_cases c42 : (wrap64 (a1_1 - a1_0)) > t264
     ·
      rw [if_pos c42] at H
      have c42b0 : decide (t264 < (wrap64 (a1_1 - a1_0))) = true := decide_eq_true c42
      clear c42
      (first | rw [c42b0] | (simp only [i64_w, i32_w]; rw [c42b0]) | skip)
      by_cases c43 : (wrap64 (t264 + t266)) = 0
      ·
       rw [if_pos c43] at H
       exact absurd H (by simp)
      ·
       rw [if_neg c43] at H
       have c43b0 : ((wrap64 (t264 + t266)) == 0) = false := beq_eq_false_iff_ne.mpr c43
       have c43b1 : ((wrap64 (t264 + t266)) != 0) = true := bne_iff_ne.mpr c43
       have H' := zA H
       clear H
       have hnb44 := NB268_261.out
       have hnc44 := NB261_268.out
       have hnb45 := NB268_262.out
       have hnc45 := NB262_268.out
       have hnb46 := NB268_269.out
       have hnc46 := NB269_268.out
       have hcz47_0 : w40.cell? ⟨gb268, 0, none⟩ = some (.int .i64 t263) := (blk_cell BK268.out 0).trans rfl
       have hcz47_1 : w40.cell? ⟨gb268, 1, none⟩ = some (.int .i64 t264) := (blk_cell BK268.out 1).trans rfl
       have hfz47_0 := blk_frozen BK268.out 0
       have hfz47_1 := blk_frozen BK268.out 1
       have hnb48 := NB269_261.out
       have hnc48 := NB261_269.out
       have hnb49 := NB269_262.out
       have hnc49 := NB262_269.out
       have hcz50_0 : w40.cell? ⟨gb269, 0, none⟩ = some (.int .i64 t265) := (blk_cell BK269.out 0).trans rfl
       have hcz50_1 : w40.cell? ⟨gb269, 1, none⟩ = some (.int .i64 t266) := (blk_cell BK269.out 1).trans rfl
       have hfz50_0 := blk_frozen BK269.out 0
       have hfz50_1 := blk_frozen BK269.out 1
       go_wp2
       go_meet
       case rel => exact ⟨_, (wrap64 (1 + (wrap64 (Int.tdiv (wrap64 ((wrap64 ((wrap64 ((wrap64 ((wrap64 (a1_1 - a1_0)) - t264)) + t264)) + t266)) - 1)) (wrap64 (t264 + t266)))))), zqQ, H', ⟨by first | omega | exact Nat.le_refl _⟩, ⟨zqB BK261.out⟩, ⟨zqB BK262.out⟩, ⟨zqB BK268.out⟩, ⟨zqB BK269.out⟩, ⟨zqJ HB.out GE261.out GE262.out GE268.out GE269.out⟩⟩
     ·
      rw [if_neg c42] at H
      have c42b0 : decide (t264 < (wrap64 (a1_1 - a1_0))) = false := decide_eq_false c42
      clear c42
      (first | rw [c42b0] | (simp only [i64_w, i32_w]; rw [c42b0]) | skip)
      have H' := zA H
      clear H
      go_wp2
      go_meet
      case rel => exact ⟨_, (1), zqQ, H', ⟨by first | omega | exact Nat.le_refl _⟩, ⟨zqB BK261.out⟩, ⟨zqB BK262.out⟩, ⟨zqB BK268.out⟩, ⟨zqB BK269.out⟩, ⟨zqJ HB.out GE261.out GE262.out GE268.out GE269.out⟩⟩
    case rest =>
     clear HC24
     try clear c1
     try clear c2
     try clear p2
     try clear c3
     try clear c4
     try clear c4b0
     try clear c4b1
     try clear c5
     try clear c6
     try clear p6
     try clear c7
     try clear c7b0
     try clear c10
     try clear c15
     try clear c16
     try clear c17
     try clear c19
     try clear c20
     try clear c27
     try clear c30
     try clear c32
     try clear c33
     try clear c34
     try clear c36
     try clear c37
     try clear c42
     try clear c42b0
     try clear c43
     try clear c43b0
     try clear c43b1
     try clear c44
     try clear c45
     try clear c46
     try clear c48
     try clear c49
     try clear hcz11_0
     try clear hcz11_1
     try clear hcz11_2
     try clear hcz11_3
     try clear hcz11_4
     try clear hcz18_0
     try clear hcz18_1
     try clear hcz21_0
     try clear hcz21_1
     try clear hcz22_0
     try clear hcz22_1
     try clear hcz28_0
     try clear hcz28_1
     try clear hcz28_2
     try clear hcz28_3
     try clear hcz28_4
     try clear hcz35_0
     try clear hcz35_1
     try clear hcz38_0
     try clear hcz38_1
     try clear hcz39_0
     try clear hcz39_1
     try clear hcz41_0
     try clear hcz41_1
     try clear hcz47_0
     try clear hcz47_1
     try clear hcz50_0
     try clear hcz50_1
     try clear hfz11_0
     try clear hfz11_1
     try clear hfz11_2
     try clear hfz11_3
     try clear hfz11_4
     try clear hfz18_0
     try clear hfz18_1
     try clear hfz21_0
     try clear hfz21_1
     try clear hfz22_0
     try clear hfz22_1
     try clear hfz28_0
     try clear hfz28_1
     try clear hfz28_2
     try clear hfz28_3
     try clear hfz28_4
     try clear hfz35_0
     try clear hfz35_1
     try clear hfz38_0
     try clear hfz38_1
     try clear hfz39_0
     try clear hfz39_1
     try clear hfz41_0
     try clear hfz41_1
     try clear hfz47_0
     try clear hfz47_1
     try clear hfz50_0
     try clear hfz50_1
     obtain ⟨kq, x10_23, rfl, HA, HJ23, BK261, BK262, BK268, BK269, HB⟩ := hcut
     cases kq with
     | zero => exact absurd HA.out (by simp [punch_Bridge.j0])
     | succ kj23 =>
      have H := HA.out
      clear HA
      simp only [punch_Bridge.j0] at H
      have HC51 := zA H
      clear H
      go_upto_region 10 with (fail)
      go_cut [82] (fun v82 wc => ∃ (kq : Nat) (x82_50 : Bool), v82 = .bool x82_50 ∧ Aside0 (punch_Bridge.j1 kq x10_23 x82_50 a1_0 a1_1 t263 t264 t265 t266 = some (r1, r2)) ∧ Aside0 (kq ≤ kj23) ∧ Aside0 (wc.heap[gb261]? = some (.cells #[.int .i64 a0_0, .int .i64 a0_1, .int .i64 a0_2, .int .i64 a0_3, .int .i64 a0_4] 57 (0, 0))) ∧ Aside0 (wc.heap[gb262]? = some (.cells #[.int .i64 a1_0, .int .i64 a1_1] 47 (0, 0))) ∧ Aside0 (wc.heap[gb268]? = some (.cells #[.int .i64 t263, .int .i64 t264] 55 (0, 0))) ∧ Aside0 (wc.heap[gb269]? = some (.cells #[.int .i64 t265, .int .i64 t266] 55 (0, 0))) ∧ Aside0 (Below w.heap.size w wc))
      case first =>
       have H := HC51.out
       clear HC51
       by_cases c52 : x10_23 > 200
       ·
        rw [if_pos c52] at H
        have c52b0 : decide (200 < x10_23) = true := decide_eq_true c52
        clear c52
        (first | rw [c52b0] | (simp only [i64_w, i32_w]; rw [c52b0]) | skip)
        have H' := zA H
        clear H
        go_wp2
        go_meet
        case rel => exact ⟨_, (true), zqQ, H', ⟨by have := HJ23.out; first | omega | exact Nat.le_refl _⟩, ⟨zqB BK261.out⟩, ⟨zqB BK262.out⟩, ⟨zqB BK268.out⟩, ⟨zqB BK269.out⟩, ⟨zqJ HB.out GE261.out GE262.out GE268.out GE269.out⟩⟩
       ·
        rw [if_neg c52] at H
        have c52b0 : decide (200 < x10_23) = false := decide_eq_false c52
        clear c52
        (first | rw [c52b0] | (simp only [i64_w, i32_w]; rw [c52b0]) | skip)
        by_cases c53 : x10_23 > 1
        ·
         rw [if_pos c53] at H
         have c53b0 : decide (1 < x10_23) = true := decide_eq_true c53
         clear c53
         by_cases c54 : t266 = 0
         ·
          rw [if_pos c54] at H
          have c54b0 : (t266 == 0) = true := beq_iff_eq.mpr c54
          have c54b1 : (t266 != 0) = false := bne_eq_false_iff_eq.mpr c54
          clear c54
          have H' := zA H
          clear H
          have hnb55 := NB269_261.out
          have hnc55 := NB261_269.out
          have hnb56 := NB269_262.out
          have hnc56 := NB262_269.out
          have hnb57 := NB269_268.out
          have hnc57 := NB268_269.out
          have hcz58_0 : wc.cell? ⟨gb269, 0, none⟩ = some (.int .i64 t265) := (blk_cell BK269.out 0).trans rfl
          have hcz58_1 : wc.cell? ⟨gb269, 1, none⟩ = some (.int .i64 t266) := (blk_cell BK269.out 1).trans rfl
          have hfz58_0 := blk_frozen BK269.out 0
          have hfz58_1 := blk_frozen BK269.out 1
          go_wp2
          go_meet
          case rel => exact ⟨_, (true), zqQ, H', ⟨by have := HJ23.out; first | omega | exact Nat.le_refl _⟩, ⟨zqB BK261.out⟩, ⟨zqB BK262.out⟩, ⟨zqB BK268.out⟩, ⟨zqB BK269.out⟩, ⟨zqJ HB.out GE261.out GE262.out GE268.out GE269.out⟩⟩
         ·
          rw [if_neg c54] at H
          have c54b0 : (t266 == 0) = false := beq_eq_false_iff_ne.mpr c54
          have c54b1 : (t266 != 0) = true := bne_iff_ne.mpr c54
          have H' := zA H
          clear H
          have hnb59 := NB269_261.out
          have hnc59 := NB261_269.out
          have hnb60 := NB269_262.out
          have hnc60 := NB262_269.out
          have hnb61 := NB269_268.out
          have hnc61 := NB268_269.out
          have hcz62_0 : wc.cell? ⟨gb269, 0, none⟩ = some (.int .i64 t265) := (blk_cell BK269.out 0).trans rfl
          have hcz62_1 : wc.cell? ⟨gb269, 1, none⟩ = some (.int .i64 t266) := (blk_cell BK269.out 1).trans rfl
          have hfz62_0 := blk_frozen BK269.out 0
          have hfz62_1 := blk_frozen BK269.out 1
          go_wp2
          go_meet
          case rel => exact ⟨_, (decide ((wrap64 (a1_1 - a1_0)) < (wrap64 (x10_23 + (wrap64 ((wrap64 (x10_23 - 1)) * t265)))))), zqQ, H', ⟨by have := HJ23.out; first | omega | exact Nat.le_refl _⟩, ⟨zqB BK261.out⟩, ⟨zqB BK262.out⟩, ⟨zqB BK268.out⟩, ⟨zqB BK269.out⟩, ⟨zqJ HB.out GE261.out GE262.out GE268.out GE269.out⟩⟩
        ·
         rw [if_neg c53] at H
         have c53b0 : decide (1 < x10_23) = false := decide_eq_false c53
         clear c53
         have H' := zA H
         clear H
         have hnb63 := NB269_261.out
         have hnc63 := NB261_269.out
         have hnb64 := NB269_262.out
         have hnc64 := NB262_269.out
         have hnb65 := NB269_268.out
         have hnc65 := NB268_269.out
         have hcz66_0 : wc.cell? ⟨gb269, 0, none⟩ = some (.int .i64 t265) := (blk_cell BK269.out 0).trans rfl
         have hcz66_1 : wc.cell? ⟨gb269, 1, none⟩ = some (.int .i64 t266) := (blk_cell BK269.out 1).trans rfl
         have hfz66_0 := blk_frozen BK269.out 0
         have hfz66_1 := blk_frozen BK269.out 1
         go_wp2
         go_meet
         case rel => exact ⟨_, (decide ((wrap64 (a1_1 - a1_0)) < (wrap64 (x10_23 + (wrap64 ((wrap64 (x10_23 - 1)) * t265)))))), zqQ, H', ⟨by have := HJ23.out; first | omega | exact Nat.le_refl _⟩, ⟨zqB BK261.out⟩, ⟨zqB BK262.out⟩, ⟨zqB BK268.out⟩, ⟨zqB BK269.out⟩, ⟨zqJ HB.out GE261.out GE262.out GE268.out GE269.out⟩⟩
      case rest =>
       clear HC51
       try clear c1
       try clear c2
       try clear p2
       try clear c3
       try clear c4
       try clear c4b0
       try clear c4b1
       try clear c5
       try clear c6
       try clear p6
       try clear c7
       try clear c7b0
       try clear c10
       try clear c15
       try clear c16
       try clear c17
       try clear c19
       try clear c20
       try clear c27
       try clear c30
       try clear c32
       try clear c33
       try clear c34
       try clear c36
       try clear c37
       try clear c42
       try clear c42b0
       try clear c43
       try clear c43b0
       try clear c43b1
       try clear c44
       try clear c45
       try clear c46
       try clear c48
       try clear c49
       try clear c52
       try clear c52b0
       try clear c53
       try clear c53b0
       try clear c54
       try clear c54b0
       try clear c54b1
       try clear c55
       try clear c56
       try clear c57
       try clear c59
       try clear c60
       try clear c61
       try clear c63
       try clear c64
       try clear p64
       try clear c65
       try clear hcz11_0
       try clear hcz11_1
       try clear hcz11_2
       try clear hcz11_3
       try clear hcz11_4
       try clear hcz18_0
       try clear hcz18_1
       try clear hcz21_0
       try clear hcz21_1
       try clear hcz22_0
       try clear hcz22_1
       try clear hcz28_0
       try clear hcz28_1
       try clear hcz28_2
       try clear hcz28_3
       try clear hcz28_4
       try clear hcz35_0
       try clear hcz35_1
       try clear hcz38_0
       try clear hcz38_1
       try clear hcz39_0
       try clear hcz39_1
       try clear hcz41_0
       try clear hcz41_1
       try clear hcz47_0
       try clear hcz47_1
       try clear hcz50_0
       try clear hcz50_1
       try clear hcz58_0
       try clear hcz58_1
       try clear hcz62_0
       try clear hcz62_1
       try clear hcz66_0
       try clear hcz66_1
       try clear hfz11_0
       try clear hfz11_1
       try clear hfz11_2
       try clear hfz11_3
       try clear hfz11_4
       try clear hfz18_0
       try clear hfz18_1
       try clear hfz21_0
       try clear hfz21_1
       try clear hfz22_0
       try clear hfz22_1
       try clear hfz28_0
       try clear hfz28_1
       try clear hfz28_2
       try clear hfz28_3
       try clear hfz28_4
       try clear hfz35_0
       try clear hfz35_1
       try clear hfz38_0
       try clear hfz38_1
       try clear hfz39_0
       try clear hfz39_1
       try clear hfz41_0
       try clear hfz41_1
       try clear hfz47_0
       try clear hfz47_1
       try clear hfz50_0
       try clear hfz50_1
       try clear hfz58_0
       try clear hfz58_1
       try clear hfz62_0
       try clear hfz62_1
       try clear hfz66_0
       try clear hfz66_1
       try clear p2
       try clear p6
       obtain ⟨kq, x82_50, rfl, HA, HJ50, BK261, BK262, BK268, BK269, HB⟩ := hcut
       cases kq with
       | zero => exact absurd HA.out (by simp [punch_Bridge.j1])
       | succ kj50 =>
        have H := HA.out
        clear HA
        simp only [punch_Bridge.j1] at H
        by_cases c67 : x82_50 = true
        ·
         subst c67
         have H1 : (some (([] : List (S47)), 20)) = some (r1, r2) := by rw [if_pos rfl] at H; exact H
         clear H; have H := H1; clear H1
         simp only [Option.some.injEq, Prod.mk.injEq] at H
         obtain ⟨rfl, rfl⟩ := H
         go_wp2
         go_ret2
         exact ⟨_, zqR, by first | exact Kd.R_nil _ _ _ _ _ | exact Kd.N_nil _ _ _ _ _ | exact Kd.V_nil _ _ _ _ _ | exact Kd.Q_nil _ _ _ _ _ | exact Kd.S_nil _ _ _ _ _, zqJ HB.out GE261.out GE262.out GE268.out GE269.out⟩
        ·
         replace c67 := Bool.eq_false_iff.mpr c67
         subst c67
         have H1 : (punch_Bridge.l0 kj50 ([] : List (S47)) a1_0 (wrap64 (x10_23 - 1)) a1_0 a1_1 t263 t264 t265 t266) = some (r1, r2) := by rw [if_neg (show ¬ (false = true) by decide)] at H; exact H
         clear H; have H := H1; clear H1
         have H' := zA H
         clear H
         have hnb68 := NB262_261.out
         have hnc68 := NB261_262.out
         have hnb69 := NB262_268.out
         have hnc69 := NB268_262.out
         have hnb70 := NB262_269.out
         have hnc70 := NB269_262.out
         have hcz71_0 : wc.cell? ⟨gb262, 0, none⟩ = some (.int .i64 a1_0) := (blk_cell BK262.out 0).trans rfl
         have hcz71_1 : wc.cell? ⟨gb262, 1, none⟩ = some (.int .i64 a1_1) := (blk_cell BK262.out 1).trans rfl
         have hfz71_0 := blk_frozen BK262.out 0
         have hfz71_1 := blk_frozen BK262.out 1
         go_wp2
         go_loopg [11, 12, 13] kj50 (fun kq v11 v12 v13 w' => ∃ (x11_3 : List (S47)) (x12_3 : Int) (x13_3 : Int), v12 = .int .i64 x12_3 ∧ v13 = .int .i64 x13_3 ∧ Aside0 (punch_Bridge.l0 kq x11_3 x12_3 x13_3 a1_0 a1_1 t263 t264 t265 t266 = some (r1, r2)) ∧ Aside0 (kq ≤ kj50) ∧ Aside0 (Kd.R k47 47 w' w.heap.size (fun k_ => k_ ≠ gb262) v11 x11_3) ∧ Aside0 (w'.heap[gb261]? = some (.cells #[.int .i64 a0_0, .int .i64 a0_1, .int .i64 a0_2, .int .i64 a0_3, .int .i64 a0_4] 57 (0, 0))) ∧ Aside0 (w'.heap[gb262]? = some (.cells #[.int .i64 a1_0, .int .i64 a1_1] 47 (0, 0))) ∧ Aside0 (w'.heap[gb268]? = some (.cells #[.int .i64 t263, .int .i64 t264] 55 (0, 0))) ∧ Aside0 (w'.heap[gb269]? = some (.cells #[.int .i64 t265, .int .i64 t266] 55 (0, 0))) ∧ Aside0 (Below w.heap.size w w'))
         case atStart => exact ⟨(([] : List (S47))), (a1_0), (wrap64 (x10_23 - 1)), zqQ, zqQ, H', ⟨Nat.le_refl _⟩, ⟨by first | exact Kd.R_nil _ _ _ _ _ | exact Kd.N_nil _ _ _ _ _ | exact Kd.V_nil _ _ _ _ _ | exact Kd.Q_nil _ _ _ _ _ | exact Kd.S_nil _ _ _ _ _⟩, ⟨zqB BK261.out⟩, ⟨zqB BK262.out⟩, ⟨zqB BK268.out⟩, ⟨zqB BK269.out⟩, ⟨zqJ HB.out GE261.out GE262.out GE268.out GE269.out⟩⟩
         case round =>
          clear H'
          try clear c1
          try clear c2
          try clear p2
          try clear c3
          try clear c4
          try clear c4b0
          try clear c4b1
          try clear c5
          try clear c6
          try clear p6
          try clear c7
          try clear c7b0
          try clear c10
          try clear c15
          try clear c16
          try clear c17
          try clear c19
          try clear c20
          try clear c27
          try clear c30
          try clear c32
          try clear c33
          try clear c34
          try clear c36
          try clear c37
          try clear c42
          try clear c42b0
          try clear c43
          try clear c43b0
          try clear c43b1
          try clear c44
          try clear c45
          try clear c46
          try clear c48
          try clear c49
          try clear c52
          try clear c52b0
          try clear c53
          try clear c53b0
          try clear c54
          try clear c54b0
          try clear c54b1
          try clear c55
          try clear c56
          try clear c57
          try clear c59
          try clear c60
          try clear c61
          try clear c63
          try clear c64
          try clear p64
          try clear c65
          try clear c67
          try clear c68
          try clear c69
          try clear c70
          try clear hcz11_0
          try clear hcz11_1
          try clear hcz11_2
          try clear hcz11_3
          try clear hcz11_4
          try clear hcz18_0
          try clear hcz18_1
          try clear hcz21_0
          try clear hcz21_1
          try clear hcz22_0
          try clear hcz22_1
          try clear hcz28_0
          try clear hcz28_1
          try clear hcz28_2
          try clear hcz28_3
          try clear hcz28_4
          try clear hcz35_0
          try clear hcz35_1
          try clear hcz38_0
          try clear hcz38_1
          try clear hcz39_0
          try clear hcz39_1
          try clear hcz41_0
          try clear hcz41_1
          try clear hcz47_0
          try clear hcz47_1
          try clear hcz50_0
          try clear hcz50_1
          try clear hcz58_0
          try clear hcz58_1
          try clear hcz62_0
          try clear hcz62_1
          try clear hcz66_0
          try clear hcz66_1
          try clear hcz71_0
          try clear hcz71_1
          try clear hfz11_0
          try clear hfz11_1
          try clear hfz11_2
          try clear hfz11_3
          try clear hfz11_4
          try clear hfz18_0
          try clear hfz18_1
          try clear hfz21_0
          try clear hfz21_1
          try clear hfz22_0
          try clear hfz22_1
          try clear hfz28_0
          try clear hfz28_1
          try clear hfz28_2
          try clear hfz28_3
          try clear hfz28_4
          try clear hfz35_0
          try clear hfz35_1
          try clear hfz38_0
          try clear hfz38_1
          try clear hfz39_0
          try clear hfz39_1
          try clear hfz41_0
          try clear hfz41_1
          try clear hfz47_0
          try clear hfz47_1
          try clear hfz50_0
          try clear hfz50_1
          try clear hfz58_0
          try clear hfz58_1
          try clear hfz62_0
          try clear hfz62_1
          try clear hfz66_0
          try clear hfz66_1
          try clear hfz71_0
          try clear hfz71_1
          try clear p2
          try clear p6
          try clear p64
          obtain ⟨x11_3, x12_3, x13_3, rfl, rfl, HA, HK3, HO_11, BK261, BK262, BK268, BK269, HB⟩ := hrel
          cases gk with
          | zero => exact absurd HA.out (by simp [punch_Bridge.l0])
          | succ k3 =>
           have H := HA.out
           clear HA
           simp only [punch_Bridge.l0] at H
           by_cases c72 : x13_3 ≥ 0
           ·
            rw [if_pos c72] at H
            have c72b0 : decide (0 ≤ x13_3) = true := decide_eq_true c72
            clear c72
            obtain ⟨y271, hy271⟩ : ∃ y_ : List Int, y_ = (([wrap64 ((wrap64 (a1_1 - x12_3)) - (wrap64 (x13_3 * (wrap64 (t263 + t265)))))] : List Int)) := ⟨_, rfl⟩
            replace H : ((punch_least.f k3 t264 y271).bind fun t274 => (if x11_3.length < 8796093022208 then ((some (x11_3 ++ [(⟨x12_3, wrap64 (x12_3 + t274)⟩ : S47)] : List (S47))).bind fun y275 => (if x13_3 > 0 then ((punch_least.f k3 t266 (([wrap64 ((wrap64 ((wrap64 (a1_1 - (wrap64 (x12_3 + t274)))) - (wrap64 (x13_3 * t263)))) - (wrap64 ((wrap64 (x13_3 - 1)) * t265)))] : List Int))).bind fun t281 => (punch_Bridge.l0 k3 y275 (wrap64 ((wrap64 (x12_3 + t274)) + t281)) (wrap64 (x13_3 - 1)) a1_0 a1_1 t263 t264 t265 t266)) else (punch_Bridge.l0 k3 y275 (wrap64 (x12_3 + t274)) (wrap64 (x13_3 - 1)) a1_0 a1_1 t263 t264 t265 t266))) else (none))) = some (r1, r2) := zqF hy271 H
            have Ny271 := zA hy271
            clear hy271
            replace H := Option.bind_eq_some_iff.mp H
            obtain ⟨t274, A730, H⟩ := H
            replace H : (if x11_3.length < 8796093022208 then ((some (x11_3 ++ [(⟨x12_3, wrap64 (x12_3 + t274)⟩ : S47)] : List (S47))).bind fun y275 => (if x13_3 > 0 then ((punch_least.f k3 t266 (([wrap64 ((wrap64 ((wrap64 (a1_1 - (wrap64 (x12_3 + t274)))) - (wrap64 (x13_3 * t263)))) - (wrap64 ((wrap64 (x13_3 - 1)) * t265)))] : List Int))).bind fun t281 => (punch_Bridge.l0 k3 y275 (wrap64 ((wrap64 (x12_3 + t274)) + t281)) (wrap64 (x13_3 - 1)) a1_0 a1_1 t263 t264 t265 t266)) else (punch_Bridge.l0 k3 y275 (wrap64 (x12_3 + t274)) (wrap64 (x13_3 - 1)) a1_0 a1_1 t263 t264 t265 t266))) else (none)) = some (r1, r2) := H
            have A73 := zA A730
            clear A730
            by_cases c74 : x11_3.length < 8796093022208
            ·
             rw [if_pos c74] at H
             have LMc74 := zA c74
             clear c74
             obtain ⟨y275, hy275⟩ : ∃ y_ : List (S47), y_ = (x11_3 ++ [(⟨x12_3, wrap64 (x12_3 + t274)⟩ : S47)]) := ⟨_, rfl⟩
             replace H : (if x13_3 > 0 then ((punch_least.f k3 t266 (([wrap64 ((wrap64 ((wrap64 (a1_1 - (wrap64 (x12_3 + t274)))) - (wrap64 (x13_3 * t263)))) - (wrap64 ((wrap64 (x13_3 - 1)) * t265)))] : List Int))).bind fun t281 => (punch_Bridge.l0 k3 y275 (wrap64 ((wrap64 (x12_3 + t274)) + t281)) (wrap64 (x13_3 - 1)) a1_0 a1_1 t263 t264 t265 t266)) else (punch_Bridge.l0 k3 y275 (wrap64 (x12_3 + t274)) (wrap64 (x13_3 - 1)) a1_0 a1_1 t263 t264 t265 t266)) = some (r1, r2) := zqF hy275 H
             have Ny275 := zA hy275
             clear hy275
             by_cases c75 : x13_3 > 0
             ·
              rw [if_pos c75] at H
              have c75b0 : decide (0 < x13_3) = true := decide_eq_true c75
              clear c75
              obtain ⟨y278, hy278⟩ : ∃ y_ : List Int, y_ = (([wrap64 ((wrap64 ((wrap64 (a1_1 - (wrap64 (x12_3 + t274)))) - (wrap64 (x13_3 * t263)))) - (wrap64 ((wrap64 (x13_3 - 1)) * t265)))] : List Int)) := ⟨_, rfl⟩
              replace H : ((punch_least.f k3 t266 y278).bind fun t281 => (punch_Bridge.l0 k3 y275 (wrap64 ((wrap64 (x12_3 + t274)) + t281)) (wrap64 (x13_3 - 1)) a1_0 a1_1 t263 t264 t265 t266)) = some (r1, r2) := zqF hy278 H
              have Ny278 := zA hy278
              clear hy278
              replace H := Option.bind_eq_some_iff.mp H
              obtain ⟨t281, A760, H⟩ := H
              replace H : (punch_Bridge.l0 k3 y275 (wrap64 ((wrap64 (x12_3 + t274)) + t281)) (wrap64 (x13_3 - 1)) a1_0 a1_1 t263 t264 t265 t266) = some (r1, r2) := H
              have A76 := zA A760
              clear A760
              have H' := zA H
              clear H
              have hnb77 := NB268_261.out
              have hnc77 := NB261_268.out
              have hnb78 := NB268_262.out
              have hnc78 := NB262_268.out
              have hnb79 := NB268_269.out
              have hnc79 := NB269_268.out
              have hcz80_0 : wr.cell? ⟨gb268, 0, none⟩ = some (.int .i64 t263) := (blk_cell BK268.out 0).trans rfl
              have hcz80_1 : wr.cell? ⟨gb268, 1, none⟩ = some (.int .i64 t264) := (blk_cell BK268.out 1).trans rfl
              have hfz80_0 := blk_frozen BK268.out 0
              have hfz80_1 := blk_frozen BK268.out 1
              have hnb81 := NB262_261.out
              have hnc81 := NB261_262.out
              have hnb82 := NB262_269.out
              have hnc82 := NB269_262.out
              have hcz83_0 : wr.cell? ⟨gb262, 0, none⟩ = some (.int .i64 a1_0) := (blk_cell BK262.out 0).trans rfl
              have hcz83_1 : wr.cell? ⟨gb262, 1, none⟩ = some (.int .i64 a1_1) := (blk_cell BK262.out 1).trans rfl
              have hfz83_0 := blk_frozen BK262.out 0
              have hfz83_1 := blk_frozen BK262.out 1
              have hnb84 := NB269_261.out
              have hnc84 := NB261_269.out
              have hcz85_0 : wr.cell? ⟨gb269, 0, none⟩ = some (.int .i64 t265) := (blk_cell BK269.out 0).trans rfl
              have hcz85_1 : wr.cell? ⟨gb269, 1, none⟩ = some (.int .i64 t266) := (blk_cell BK269.out 1).trans rfl
              have hfz85_0 := blk_frozen BK269.out 0
              have hfz85_1 := blk_frozen BK269.out 1
              go_wp2_with (first | ((with_reducible refine gate_dst (N := 105) rfl ?_); refine Kd.R_lit (Kd.int .i64) _ 3 ?hg (N := 105) ?hd (xs := ([wrap64 ((wrap64 (a1_1 - x12_3)) - (wrap64 (x13_3 * (wrap64 (t263 + t265)))))] : List Int)) (inner := [.int .i64 (wrap64 ((wrap64 (a1_1 - x12_3)) - (wrap64 (x13_3 * (wrap64 (t263 + t265))))))]) (ok := fun _ => True) (okp := fun _ => True) ?hr ?hp (fun _ hk => hk) trivial (Below.refl _ _) (Nat.le_refl _) (by simp) ?_; (case hd => rfl); (case hg => rfl); (case hr => first | (go_simp; done) | (go_simp; rfl)); (case hp => exact (Reps.one (show Kd.M (Kd.int .i64) _ _ _ (wrap64 ((wrap64 (a1_1 - x12_3)) - (wrap64 (x13_3 * (wrap64 (t263 + t265)))))) [.int .i64 (wrap64 ((wrap64 (a1_1 - x12_3)) - (wrap64 (x13_3 * (wrap64 (t263 + t265))))))] from rfl) (Reps.none _ _))); intro v272 w86 ho87 hb hg_ hnew_; clear hg_ hnew_; (first | rw [← Ny271.out] at ho87 | (simp only [Int.reduceToNat] at ho87; rw [← Ny271.out] at ho87)); have n0_ := zA (Kd.R_below (zqC HO_11.out) hb); have n1_ := zA (Kd.R_lower ho87 (below_size (zqJ HB.out GE261.out GE262.out GE268.out GE269.out))); have n2_ := zA (blk_below (g := gb261) (o := .cells #[.int .i64 a0_0, .int .i64 a0_1, .int .i64 a0_2, .int .i64 a0_3, .int .i64 a0_4] 57 (0, 0)) (zqB BK261.out) hb); have n3_ := zA (blk_below (g := gb262) (o := .cells #[.int .i64 a1_0, .int .i64 a1_1] 47 (0, 0)) (zqB BK262.out) hb); have n4_ := zA (blk_below (g := gb268) (o := .cells #[.int .i64 t263, .int .i64 t264] 55 (0, 0)) (zqB BK268.out) hb); have n5_ := zA (blk_below (g := gb269) (o := .cells #[.int .i64 t265, .int .i64 t266] 55 (0, 0)) (zqB BK269.out) hb); have n6_ := zA (below_step (zqJ HB.out GE261.out GE262.out GE268.out GE269.out) hb); clear HO_11; clear BK261; clear BK262; clear BK268; clear BK269; clear HB; have HO_11 := n0_; have HO273 := n1_; have BK261 := n2_; have BK262 := n3_; have BK268 := n4_; have BK269 := n5_; have HB := n6_; clear n0_ n1_ n2_ n3_ n4_ n5_ n6_; clear hb ho87; obtain ⟨Ao88, co88, eo88⟩ := Kd.R_slice HO273.out; subst eo88) | ((with_reducible refine gate_callee (f := 74) rfl ?_); refine goesL_ (some 106) rfl rfl Try.func74 (by kernel_rfl) rfl #[.int .i64 t264, .slice Ao88 y271.length co88] rfl zqE ?_; (with_reducible refine (punch_least.calls k3 t264 _ _ y271 t274 _ ?side1 ?side2 A73.out).mono ?_); (case side1 => exact zqK (Kd.R_reads' HO273.out).2.2); (case side2 => exact (Kd.R_reads' HO273.out).2.1); rintro e w89 ⟨rfl, hb⟩; refine ⟨_, rfl, ?_⟩; have n0_ := zA (Kd.R_below (zqC HO_11.out) hb); have n1_ := zA (Kd.R_below (zqC HO273.out) hb); have n2_ := zA (blk_below (g := gb261) (o := .cells #[.int .i64 a0_0, .int .i64 a0_1, .int .i64 a0_2, .int .i64 a0_3, .int .i64 a0_4] 57 (0, 0)) (zqB BK261.out) hb); have n3_ := zA (blk_below (g := gb262) (o := .cells #[.int .i64 a1_0, .int .i64 a1_1] 47 (0, 0)) (zqB BK262.out) hb); have n4_ := zA (blk_below (g := gb268) (o := .cells #[.int .i64 t263, .int .i64 t264] 55 (0, 0)) (zqB BK268.out) hb); have n5_ := zA (blk_below (g := gb269) (o := .cells #[.int .i64 t265, .int .i64 t266] 55 (0, 0)) (zqB BK269.out) hb); have n6_ := zA (below_step (zqJ HB.out GE261.out GE262.out GE268.out GE269.out) hb); clear HO_11; clear HO273; clear BK261; clear BK262; clear BK268; clear BK269; clear HB; have HO_11 := n0_; have HO273 := n1_; have BK261 := n2_; have BK262 := n3_; have BK268 := n4_; have BK269 := n5_; have HB := n6_; clear n0_ n1_ n2_ n3_ n4_ n5_ n6_; (try clear hb); (try clear hb2); (try clear hk); (try clear hi)) | ((with_reducible refine gate_builtin (b := .append) (xs := #[.tmp 107, .tmp 113]) rfl ?_); at_builtin; refine Kd.R_append k47 (w0 := w) w.heap.size rfl (.tmp 107) (.tmp 113) 22 47 (.agg #[(.int .i64 0), (.int .i64 0)]) 16 rfl Try.underlying22 info47 rfl (by decide) (by omega) u11 x11_3 (⟨x12_3, wrap64 (x12_3 + t274)⟩ : S47) [.int .i64 x12_3, .int .i64 (wrap64 (x12_3 + t274))] (fun k_ => k_ ≠ gb262) (fun _ => False) rfl rfl ?aP (fun _ hk => hk.elim) ?aF ?aO ?aB ?aS ?aL ?_; (case aP => exact k47_mkM _ _ _ (⟨x12_3, wrap64 (x12_3 + t274)⟩ : S47)); (case aB => exact (zqJ HB.out GE261.out GE262.out GE268.out GE269.out)); (case aF => exact (fun k_ hk => Kd.freshB (g := gb262) (o := .cells #[.int .i64 a1_0, .int .i64 a1_1] 47 (0, 0)) (zqB BK262.out) k_ hk)); (case aO => exact (zqC HO_11.out)); (case aS => exact (below_size (zqJ HB.out GE261.out GE262.out GE268.out GE269.out))); (case aL => have := LMc74.out; omega); intro v276 w90 ho hb hg hat; rw [← Ny275.out] at ho; have n0_ := zA (blk_grown (g := gb261) (o := .cells #[.int .i64 a0_0, .int .i64 a0_1, .int .i64 a0_2, .int .i64 a0_3, .int .i64 a0_4] 57 (0, 0)) (zqB BK261.out) hg (Kd.R_ne HO_11.out BK261.out (by decide))); have n1_ := zA (blk_grown (g := gb262) (o := .cells #[.int .i64 a1_0, .int .i64 a1_1] 47 (0, 0)) (zqB BK262.out) hg (Kd.R_away HO_11.out (fun _ hk => hk))); have n2_ := zA (blk_grown (g := gb268) (o := .cells #[.int .i64 t263, .int .i64 t264] 55 (0, 0)) (zqB BK268.out) hg (Kd.R_ne HO_11.out BK268.out (by decide))); have n3_ := zA (blk_grown (g := gb269) (o := .cells #[.int .i64 t265, .int .i64 t266] 55 (0, 0)) (zqB BK269.out) hg (Kd.R_ne HO_11.out BK269.out (by decide))); have n4_ := zA (Kd.R_over' (zqC HO273.out) (Kd.R_typed (zqC HO_11.out)) (by decide) hg); have n5_ := zA (hb); have n6_ := zA (ho); clear BK261; clear BK262; clear BK268; clear BK269; clear HO273; clear HB; clear HO_11; have BK261 := n0_; have BK262 := n1_; have BK268 := n2_; have BK269 := n3_; have HO273 := n4_; have HB := n5_; have HO277 := n6_; clear n0_ n1_ n2_ n3_ n4_ n5_ n6_; clear ho hb hg hat; have hcz91_0 : w90.cell? ⟨gb269, 0, none⟩ = some (.int .i64 t265) := (blk_cell BK269.out 0).trans rfl; have hcz91_1 : w90.cell? ⟨gb269, 1, none⟩ = some (.int .i64 t266) := (blk_cell BK269.out 1).trans rfl; have hfz91_0 := blk_frozen BK269.out 0; have hfz91_1 := blk_frozen BK269.out 1; have hcz92_0 : w90.cell? ⟨gb262, 0, none⟩ = some (.int .i64 a1_0) := (blk_cell BK262.out 0).trans rfl; have hcz92_1 : w90.cell? ⟨gb262, 1, none⟩ = some (.int .i64 a1_1) := (blk_cell BK262.out 1).trans rfl; have hfz92_0 := blk_frozen BK262.out 0; have hfz92_1 := blk_frozen BK262.out 1; have hcz93_0 : w90.cell? ⟨gb268, 0, none⟩ = some (.int .i64 t263) := (blk_cell BK268.out 0).trans rfl; have hcz93_1 : w90.cell? ⟨gb268, 1, none⟩ = some (.int .i64 t264) := (blk_cell BK268.out 1).trans rfl; have hfz93_0 := blk_frozen BK268.out 0; have hfz93_1 := blk_frozen BK268.out 1) | ((with_reducible refine gate_dst (N := 138) rfl ?_); refine Kd.R_lit (Kd.int .i64) _ 3 ?hg (N := 138) ?hd (xs := ([wrap64 ((wrap64 ((wrap64 (a1_1 - (wrap64 (x12_3 + t274)))) - (wrap64 (x13_3 * t263)))) - (wrap64 ((wrap64 (x13_3 - 1)) * t265)))] : List Int)) (inner := [.int .i64 (wrap64 ((wrap64 ((wrap64 (a1_1 - (wrap64 (x12_3 + t274)))) - (wrap64 (x13_3 * t263)))) - (wrap64 ((wrap64 (x13_3 - 1)) * t265))))]) (ok := fun _ => True) (okp := fun _ => True) ?hr ?hp (fun _ hk => hk) trivial (Below.refl _ _) (Nat.le_refl _) (by simp) ?_; (case hd => rfl); (case hg => rfl); (case hr => first | (go_simp; done) | (go_simp; rfl)); (case hp => exact (Reps.one (show Kd.M (Kd.int .i64) _ _ _ (wrap64 ((wrap64 ((wrap64 (a1_1 - (wrap64 (x12_3 + t274)))) - (wrap64 (x13_3 * t263)))) - (wrap64 ((wrap64 (x13_3 - 1)) * t265)))) [.int .i64 (wrap64 ((wrap64 ((wrap64 (a1_1 - (wrap64 (x12_3 + t274)))) - (wrap64 (x13_3 * t263)))) - (wrap64 ((wrap64 (x13_3 - 1)) * t265))))] from rfl) (Reps.none _ _))); intro v279 w94 ho95 hb hg_ hnew_; clear hg_ hnew_; (first | rw [← Ny278.out] at ho95 | (simp only [Int.reduceToNat] at ho95; rw [← Ny278.out] at ho95)); have n0_ := zA (Kd.R_elder' (zqC HO273.out) (Kd.R_base ho95) hb); have n1_ := zA (Kd.R_below (zqC HO277.out) hb); have n2_ := zA (Kd.R_lower (Kd.R_new' ho95 (Kd.R_lt (zqC HO273.out))) (below_size (zqJ HB.out GE261.out GE262.out GE268.out GE269.out))); have n3_ := zA (blk_below (g := gb261) (o := .cells #[.int .i64 a0_0, .int .i64 a0_1, .int .i64 a0_2, .int .i64 a0_3, .int .i64 a0_4] 57 (0, 0)) (zqB BK261.out) hb); have n4_ := zA (blk_below (g := gb262) (o := .cells #[.int .i64 a1_0, .int .i64 a1_1] 47 (0, 0)) (zqB BK262.out) hb); have n5_ := zA (blk_below (g := gb268) (o := .cells #[.int .i64 t263, .int .i64 t264] 55 (0, 0)) (zqB BK268.out) hb); have n6_ := zA (blk_below (g := gb269) (o := .cells #[.int .i64 t265, .int .i64 t266] 55 (0, 0)) (zqB BK269.out) hb); have n7_ := zA (below_step (zqJ HB.out GE261.out GE262.out GE268.out GE269.out) hb); clear HO273; clear HO277; clear BK261; clear BK262; clear BK268; clear BK269; clear HB; have HO273 := n0_; have HO277 := n1_; have HO280 := n2_; have BK261 := n3_; have BK262 := n4_; have BK268 := n5_; have BK269 := n6_; have HB := n7_; clear n0_ n1_ n2_ n3_ n4_ n5_ n6_ n7_; clear hb ho95; obtain ⟨Ao96, co96, eo96⟩ := Kd.R_slice HO280.out; subst eo96) | ((with_reducible refine gate_callee (f := 74) rfl ?_); refine goesL_ (some 139) rfl rfl Try.func74 (by kernel_rfl) rfl #[.int .i64 t266, .slice Ao96 y278.length co96] rfl zqE ?_; (with_reducible refine (punch_least.calls k3 t266 _ _ y278 t281 _ ?side1 ?side2 A76.out).mono ?_); (case side1 => exact zqK (Kd.R_reads' HO280.out).2.2); (case side2 => exact (Kd.R_reads' HO280.out).2.1); rintro e w97 ⟨rfl, hb⟩; refine ⟨_, rfl, ?_⟩; have n0_ := zA (Kd.R_below (zqC HO273.out) hb); have n1_ := zA (Kd.R_below (zqC HO277.out) hb); have n2_ := zA (Kd.R_below (zqC HO280.out) hb); have n3_ := zA (blk_below (g := gb261) (o := .cells #[.int .i64 a0_0, .int .i64 a0_1, .int .i64 a0_2, .int .i64 a0_3, .int .i64 a0_4] 57 (0, 0)) (zqB BK261.out) hb); have n4_ := zA (blk_below (g := gb262) (o := .cells #[.int .i64 a1_0, .int .i64 a1_1] 47 (0, 0)) (zqB BK262.out) hb); have n5_ := zA (blk_below (g := gb268) (o := .cells #[.int .i64 t263, .int .i64 t264] 55 (0, 0)) (zqB BK268.out) hb); have n6_ := zA (blk_below (g := gb269) (o := .cells #[.int .i64 t265, .int .i64 t266] 55 (0, 0)) (zqB BK269.out) hb); have n7_ := zA (below_step (zqJ HB.out GE261.out GE262.out GE268.out GE269.out) hb); clear HO273; clear HO277; clear HO280; clear BK261; clear BK262; clear BK268; clear BK269; clear HB; have HO273 := n0_; have HO277 := n1_; have HO280 := n2_; have BK261 := n3_; have BK262 := n4_; have BK268 := n5_; have BK269 := n6_; have HB := n7_; clear n0_ n1_ n2_ n3_ n4_ n5_ n6_ n7_; (try clear hb); (try clear hb2); (try clear hk); (try clear hi)))
              go_roundg k3
              case measure => have := HJ23.out; have := HJ50.out; have := HK3.out; omega
              case rel => exact ⟨(y275), (wrap64 ((wrap64 (x12_3 + t274)) + t281)), (wrap64 (x13_3 - 1)), zqQ, zqQ, H', ⟨by have := HJ23.out; have := HJ50.out; have := HK3.out; omega⟩, ⟨zqC HO277.out⟩, ⟨zqB BK261.out⟩, ⟨zqB BK262.out⟩, ⟨zqB BK268.out⟩, ⟨zqB BK269.out⟩, ⟨zqJ HB.out GE261.out GE262.out GE268.out GE269.out⟩⟩
             ·
              rw [if_neg c75] at H
              have c75b0 : decide (0 < x13_3) = false := decide_eq_false c75
              clear c75
              have H' := zA H
              clear H
              have hnb98 := NB268_261.out
              have hnc98 := NB261_268.out
              have hnb99 := NB268_262.out
              have hnc99 := NB262_268.out
              have hnb100 := NB268_269.out
              have hnc100 := NB269_268.out
              have hcz101_0 : wr.cell? ⟨gb268, 0, none⟩ = some (.int .i64 t263) := (blk_cell BK268.out 0).trans rfl
              have hcz101_1 : wr.cell? ⟨gb268, 1, none⟩ = some (.int .i64 t264) := (blk_cell BK268.out 1).trans rfl
              have hfz101_0 := blk_frozen BK268.out 0
              have hfz101_1 := blk_frozen BK268.out 1
              have hnb102 := NB262_261.out
              have hnc102 := NB261_262.out
              have hnb103 := NB262_269.out
              have hnc103 := NB269_262.out
              have hcz104_0 : wr.cell? ⟨gb262, 0, none⟩ = some (.int .i64 a1_0) := (blk_cell BK262.out 0).trans rfl
              have hcz104_1 : wr.cell? ⟨gb262, 1, none⟩ = some (.int .i64 a1_1) := (blk_cell BK262.out 1).trans rfl
              have hfz104_0 := blk_frozen BK262.out 0
              have hfz104_1 := blk_frozen BK262.out 1
              have hnb105 := NB269_261.out
              have hnc105 := NB261_269.out
              have hcz106_0 : wr.cell? ⟨gb269, 0, none⟩ = some (.int .i64 t265) := (blk_cell BK269.out 0).trans rfl
              have hcz106_1 : wr.cell? ⟨gb269, 1, none⟩ = some (.int .i64 t266) := (blk_cell BK269.out 1).trans rfl
              have hfz106_0 := blk_frozen BK269.out 0
              have hfz106_1 := blk_frozen BK269.out 1
              go_wp2_with (first | ((with_reducible refine gate_dst (N := 105) rfl ?_); refine Kd.R_lit (Kd.int .i64) _ 3 ?hg (N := 105) ?hd (xs := ([wrap64 ((wrap64 (a1_1 - x12_3)) - (wrap64 (x13_3 * (wrap64 (t263 + t265)))))] : List Int)) (inner := [.int .i64 (wrap64 ((wrap64 (a1_1 - x12_3)) - (wrap64 (x13_3 * (wrap64 (t263 + t265))))))]) (ok := fun _ => True) (okp := fun _ => True) ?hr ?hp (fun _ hk => hk) trivial (Below.refl _ _) (Nat.le_refl _) (by simp) ?_; (case hd => rfl); (case hg => rfl); (case hr => first | (go_simp; done) | (go_simp; rfl)); (case hp => exact (Reps.one (show Kd.M (Kd.int .i64) _ _ _ (wrap64 ((wrap64 (a1_1 - x12_3)) - (wrap64 (x13_3 * (wrap64 (t263 + t265)))))) [.int .i64 (wrap64 ((wrap64 (a1_1 - x12_3)) - (wrap64 (x13_3 * (wrap64 (t263 + t265))))))] from rfl) (Reps.none _ _))); intro v272 w107 ho108 hb hg_ hnew_; clear hg_ hnew_; (first | rw [← Ny271.out] at ho108 | (simp only [Int.reduceToNat] at ho108; rw [← Ny271.out] at ho108)); have n0_ := zA (Kd.R_below (zqC HO_11.out) hb); have n1_ := zA (Kd.R_lower ho108 (below_size (zqJ HB.out GE261.out GE262.out GE268.out GE269.out))); have n2_ := zA (blk_below (g := gb261) (o := .cells #[.int .i64 a0_0, .int .i64 a0_1, .int .i64 a0_2, .int .i64 a0_3, .int .i64 a0_4] 57 (0, 0)) (zqB BK261.out) hb); have n3_ := zA (blk_below (g := gb262) (o := .cells #[.int .i64 a1_0, .int .i64 a1_1] 47 (0, 0)) (zqB BK262.out) hb); have n4_ := zA (blk_below (g := gb268) (o := .cells #[.int .i64 t263, .int .i64 t264] 55 (0, 0)) (zqB BK268.out) hb); have n5_ := zA (blk_below (g := gb269) (o := .cells #[.int .i64 t265, .int .i64 t266] 55 (0, 0)) (zqB BK269.out) hb); have n6_ := zA (below_step (zqJ HB.out GE261.out GE262.out GE268.out GE269.out) hb); clear HO_11; clear BK261; clear BK262; clear BK268; clear BK269; clear HB; have HO_11 := n0_; have HO273 := n1_; have BK261 := n2_; have BK262 := n3_; have BK268 := n4_; have BK269 := n5_; have HB := n6_; clear n0_ n1_ n2_ n3_ n4_ n5_ n6_; clear hb ho108; obtain ⟨Ao109, co109, eo109⟩ := Kd.R_slice HO273.out; subst eo109) | ((with_reducible refine gate_callee (f := 74) rfl ?_); refine goesL_ (some 106) rfl rfl Try.func74 (by kernel_rfl) rfl #[.int .i64 t264, .slice Ao109 y271.length co109] rfl zqE ?_; (with_reducible refine (punch_least.calls k3 t264 _ _ y271 t274 _ ?side1 ?side2 A73.out).mono ?_); (case side1 => exact zqK (Kd.R_reads' HO273.out).2.2); (case side2 => exact (Kd.R_reads' HO273.out).2.1); rintro e w110 ⟨rfl, hb⟩; refine ⟨_, rfl, ?_⟩; have n0_ := zA (Kd.R_below (zqC HO_11.out) hb); have n1_ := zA (Kd.R_below (zqC HO273.out) hb); have n2_ := zA (blk_below (g := gb261) (o := .cells #[.int .i64 a0_0, .int .i64 a0_1, .int .i64 a0_2, .int .i64 a0_3, .int .i64 a0_4] 57 (0, 0)) (zqB BK261.out) hb); have n3_ := zA (blk_below (g := gb262) (o := .cells #[.int .i64 a1_0, .int .i64 a1_1] 47 (0, 0)) (zqB BK262.out) hb); have n4_ := zA (blk_below (g := gb268) (o := .cells #[.int .i64 t263, .int .i64 t264] 55 (0, 0)) (zqB BK268.out) hb); have n5_ := zA (blk_below (g := gb269) (o := .cells #[.int .i64 t265, .int .i64 t266] 55 (0, 0)) (zqB BK269.out) hb); have n6_ := zA (below_step (zqJ HB.out GE261.out GE262.out GE268.out GE269.out) hb); clear HO_11; clear HO273; clear BK261; clear BK262; clear BK268; clear BK269; clear HB; have HO_11 := n0_; have HO273 := n1_; have BK261 := n2_; have BK262 := n3_; have BK268 := n4_; have BK269 := n5_; have HB := n6_; clear n0_ n1_ n2_ n3_ n4_ n5_ n6_; (try clear hb); (try clear hb2); (try clear hk); (try clear hi)) | ((with_reducible refine gate_builtin (b := .append) (xs := #[.tmp 107, .tmp 113]) rfl ?_); at_builtin; refine Kd.R_append k47 (w0 := w) w.heap.size rfl (.tmp 107) (.tmp 113) 22 47 (.agg #[(.int .i64 0), (.int .i64 0)]) 16 rfl Try.underlying22 info47 rfl (by decide) (by omega) u11 x11_3 (⟨x12_3, wrap64 (x12_3 + t274)⟩ : S47) [.int .i64 x12_3, .int .i64 (wrap64 (x12_3 + t274))] (fun k_ => k_ ≠ gb262) (fun _ => False) rfl rfl ?aP (fun _ hk => hk.elim) ?aF ?aO ?aB ?aS ?aL ?_; (case aP => exact k47_mkM _ _ _ (⟨x12_3, wrap64 (x12_3 + t274)⟩ : S47)); (case aB => exact (zqJ HB.out GE261.out GE262.out GE268.out GE269.out)); (case aF => exact (fun k_ hk => Kd.freshB (g := gb262) (o := .cells #[.int .i64 a1_0, .int .i64 a1_1] 47 (0, 0)) (zqB BK262.out) k_ hk)); (case aO => exact (zqC HO_11.out)); (case aS => exact (below_size (zqJ HB.out GE261.out GE262.out GE268.out GE269.out))); (case aL => have := LMc74.out; omega); intro v276 w111 ho hb hg hat; rw [← Ny275.out] at ho; have n0_ := zA (blk_grown (g := gb261) (o := .cells #[.int .i64 a0_0, .int .i64 a0_1, .int .i64 a0_2, .int .i64 a0_3, .int .i64 a0_4] 57 (0, 0)) (zqB BK261.out) hg (Kd.R_ne HO_11.out BK261.out (by decide))); have n1_ := zA (blk_grown (g := gb262) (o := .cells #[.int .i64 a1_0, .int .i64 a1_1] 47 (0, 0)) (zqB BK262.out) hg (Kd.R_away HO_11.out (fun _ hk => hk))); have n2_ := zA (blk_grown (g := gb268) (o := .cells #[.int .i64 t263, .int .i64 t264] 55 (0, 0)) (zqB BK268.out) hg (Kd.R_ne HO_11.out BK268.out (by decide))); have n3_ := zA (blk_grown (g := gb269) (o := .cells #[.int .i64 t265, .int .i64 t266] 55 (0, 0)) (zqB BK269.out) hg (Kd.R_ne HO_11.out BK269.out (by decide))); have n4_ := zA (Kd.R_over' (zqC HO273.out) (Kd.R_typed (zqC HO_11.out)) (by decide) hg); have n5_ := zA (hb); have n6_ := zA (ho); clear BK261; clear BK262; clear BK268; clear BK269; clear HO273; clear HB; clear HO_11; have BK261 := n0_; have BK262 := n1_; have BK268 := n2_; have BK269 := n3_; have HO273 := n4_; have HB := n5_; have HO277 := n6_; clear n0_ n1_ n2_ n3_ n4_ n5_ n6_; clear ho hb hg hat))
              go_roundg k3
              case measure => have := HJ23.out; have := HJ50.out; have := HK3.out; omega
              case rel => exact ⟨(y275), (wrap64 (x12_3 + t274)), (wrap64 (x13_3 - 1)), zqQ, zqQ, H', ⟨by have := HJ23.out; have := HJ50.out; have := HK3.out; omega⟩, ⟨zqC HO277.out⟩, ⟨zqB BK261.out⟩, ⟨zqB BK262.out⟩, ⟨zqB BK268.out⟩, ⟨zqB BK269.out⟩, ⟨zqJ HB.out GE261.out GE262.out GE268.out GE269.out⟩⟩
            ·
             rw [if_neg c74] at H
             exact absurd H (by simp)
           ·
            rw [if_neg c72] at H
            have c72b0 : decide (0 ≤ x13_3) = false := decide_eq_false c72
            clear c72
            simp only [Option.some.injEq, Prod.mk.injEq] at H
            obtain ⟨rfl, rfl⟩ := H
            go_wp2
            go_ret2
            exact ⟨_, zqR, by (with_reducible repeat (first | apply Kd.R_alloc | apply Kd.R_drewN | apply Kd.R_drew)); exact Kd.R_mono HO_11.out (fun _ hk => trivial), zqJ HB.out GE261.out GE262.out GE268.out GE269.out⟩
  ·
   replace c6 := Bool.eq_false_iff.mpr c6
   subst c6
   have H1 : (some (([] : List (S47)), 3)) = some (r1, r2) := by rw [if_neg (show ¬ (false = true) by decide)] at H; exact H
   clear H; have H := H1; clear H1
   simp only [Option.some.injEq, Prod.mk.injEq] at H
   obtain ⟨rfl, rfl⟩ := H
   go_enter Try.func32, Try.ntmps32
   go_wp2_with (first | ((with_reducible refine gate_dst (N := 2) rfl ?_); refine box_event ?hg (N := 2) ?hd (cs := #[.int .i64 a0_0, .int .i64 a0_1, .int .i64 a0_2, .int .i64 a0_3, .int .i64 a0_4]) (t := 57) ?hr ?_; (case hd => rfl); (case hg => rfl); (case hr => first | (go_simp; done) | (go_simp; rfl)); intro gb261 hg w112 hbox hb; have n0_ := zA (below_step (zqA HB.out) hb); have n1_ := zA (hbox); have n2_ := zA ((by rw [hg]; exact (below_size (zqA HB.out)) : w.heap.size ≤ gb261)); have n3_ := zA ((by rw [hg]; exact (below_size (zqA HB.out)) : w.heap.size ≤ gb261)); clear HB; have HB := n0_; have BK261 := n1_; have GW261 := n2_; have GE261 := n3_; clear n0_ n1_ n2_ n3_; clear hb hbox hg) | ((with_reducible refine gate_dst (N := 3) rfl ?_); refine box_event ?hg (N := 3) ?hd (cs := #[.int .i64 a1_0, .int .i64 a1_1]) (t := 47) ?hr ?_; (case hd => rfl); (case hg => rfl); (case hr => first | (go_simp; done) | (go_simp; rfl)); intro gb262 hg w113 hbox hb; have n0_ := zA (blk_below (g := gb261) (o := .cells #[.int .i64 a0_0, .int .i64 a0_1, .int .i64 a0_2, .int .i64 a0_3, .int .i64 a0_4] 57 (0, 0)) (zqB BK261.out) hb); have n1_ := zA (below_step (zqG HB.out GE261.out) hb); have n2_ := zA (hbox); have n3_ := zA ((by rw [hg]; exact (below_size (zqG HB.out GE261.out)) : w.heap.size ≤ gb262)); have n4_ := zA ((by rw [hg]; exact (below_size (zqG HB.out GE261.out)) : w.heap.size ≤ gb262)); have n5_ := zA ((by rw [hg]; exact Nat.ne_of_lt (blk_lt (g := gb261) (o := .cells #[.int .i64 a0_0, .int .i64 a0_1, .int .i64 a0_2, .int .i64 a0_3, .int .i64 a0_4] 57 (0, 0)) (zqB BK261.out)) : gb261 ≠ gb262)); have n6_ := zA ((by rw [hg]; exact Nat.ne_of_gt (blk_lt (g := gb261) (o := .cells #[.int .i64 a0_0, .int .i64 a0_1, .int .i64 a0_2, .int .i64 a0_3, .int .i64 a0_4] 57 (0, 0)) (zqB BK261.out)) : gb262 ≠ gb261)); clear BK261; clear HB; have BK261 := n0_; have HB := n1_; have BK262 := n2_; have GW262 := n3_; have GE262 := n4_; have NB261_262 := n5_; have NB262_261 := n6_; clear n0_ n1_ n2_ n3_ n4_ n5_ n6_; clear hb hbox hg; have hnb114 := NB261_262.out; have hnc114 := NB262_261.out; have hcz115_0 : w113.cell? ⟨gb261, 0, none⟩ = some (.int .i64 a0_0) := (blk_cell BK261.out 0).trans rfl; have hcz115_1 : w113.cell? ⟨gb261, 1, none⟩ = some (.int .i64 a0_1) := (blk_cell BK261.out 1).trans rfl; have hcz115_2 : w113.cell? ⟨gb261, 2, none⟩ = some (.int .i64 a0_2) := (blk_cell BK261.out 2).trans rfl; have hcz115_3 : w113.cell? ⟨gb261, 3, none⟩ = some (.int .i64 a0_3) := (blk_cell BK261.out 3).trans rfl; have hcz115_4 : w113.cell? ⟨gb261, 4, none⟩ = some (.int .i64 a0_4) := (blk_cell BK261.out 4).trans rfl; have hfz115_0 := blk_frozen BK261.out 0; have hfz115_1 := blk_frozen BK261.out 1; have hfz115_2 := blk_frozen BK261.out 2; have hfz115_3 := blk_frozen BK261.out 3; have hfz115_4 := blk_frozen BK261.out 4) | ((with_reducible refine gate_callee (f := 30) rfl ?_); refine goesL_ (some 17) rfl rfl Try.func30 (by kernel_rfl) rfl #[.agg #[.int .i64 a0_0, .int .i64 a0_1, .int .i64 a0_2, .int .i64 a0_3, .int .i64 a0_4]] rfl zqE ?_; (with_reducible refine (punch_Bars.calls a0_0 a0_1 a0_2 a0_3 a0_4 t263 t264 t265 t266 t267 _ A3.out).mono ?_); rintro e w116 ⟨rfl, hb⟩; refine ⟨_, rfl, ?_⟩; have n0_ := zA (blk_below (g := gb261) (o := .cells #[.int .i64 a0_0, .int .i64 a0_1, .int .i64 a0_2, .int .i64 a0_3, .int .i64 a0_4] 57 (0, 0)) (zqB BK261.out) hb); have n1_ := zA (blk_below (g := gb262) (o := .cells #[.int .i64 a1_0, .int .i64 a1_1] 47 (0, 0)) (zqB BK262.out) hb); have n2_ := zA (below_step (zqH HB.out GE261.out GE262.out) hb); clear BK261; clear BK262; clear HB; have BK261 := n0_; have BK262 := n1_; have HB := n2_; clear n0_ n1_ n2_; (try clear hb); (try clear hb2); (try clear hk); (try clear hi)) | ((with_reducible refine gate_dst (N := 6) rfl ?_); refine box_event ?hg (N := 6) ?hd (cs := #[.int .i64 0, .int .i64 0]) (t := 55) ?hr ?_; (case hd => rfl); (case hg => rfl); (case hr => first | (go_simp; done) | (go_simp; rfl)); intro gb268 hg w117 hbox hb; have n0_ := zA (blk_below (g := gb261) (o := .cells #[.int .i64 a0_0, .int .i64 a0_1, .int .i64 a0_2, .int .i64 a0_3, .int .i64 a0_4] 57 (0, 0)) (zqB BK261.out) hb); have n1_ := zA (blk_below (g := gb262) (o := .cells #[.int .i64 a1_0, .int .i64 a1_1] 47 (0, 0)) (zqB BK262.out) hb); have n2_ := zA (below_step (zqH HB.out GE261.out GE262.out) hb); have n3_ := zA (hbox); have n4_ := zA ((by rw [hg]; exact (below_size (zqH HB.out GE261.out GE262.out)) : w.heap.size ≤ gb268)); have n5_ := zA ((by rw [hg]; exact (below_size (zqH HB.out GE261.out GE262.out)) : w.heap.size ≤ gb268)); have n6_ := zA ((by rw [hg]; exact Nat.ne_of_lt (blk_lt (g := gb261) (o := .cells #[.int .i64 a0_0, .int .i64 a0_1, .int .i64 a0_2, .int .i64 a0_3, .int .i64 a0_4] 57 (0, 0)) (zqB BK261.out)) : gb261 ≠ gb268)); have n7_ := zA ((by rw [hg]; exact Nat.ne_of_gt (blk_lt (g := gb261) (o := .cells #[.int .i64 a0_0, .int .i64 a0_1, .int .i64 a0_2, .int .i64 a0_3, .int .i64 a0_4] 57 (0, 0)) (zqB BK261.out)) : gb268 ≠ gb261)); have n8_ := zA ((by rw [hg]; exact Nat.ne_of_lt (blk_lt (g := gb262) (o := .cells #[.int .i64 a1_0, .int .i64 a1_1] 47 (0, 0)) (zqB BK262.out)) : gb262 ≠ gb268)); have n9_ := zA ((by rw [hg]; exact Nat.ne_of_gt (blk_lt (g := gb262) (o := .cells #[.int .i64 a1_0, .int .i64 a1_1] 47 (0, 0)) (zqB BK262.out)) : gb268 ≠ gb262)); clear BK261; clear BK262; clear HB; have BK261 := n0_; have BK262 := n1_; have HB := n2_; have BK268 := n3_; have GW268 := n4_; have GE268 := n5_; have NB261_268 := n6_; have NB268_261 := n7_; have NB262_268 := n8_; have NB268_262 := n9_; clear n0_ n1_ n2_ n3_ n4_ n5_ n6_ n7_ n8_ n9_; clear hb hbox hg) | ((with_reducible refine gate_dst (N := 7) rfl ?_); refine box_event ?hg (N := 7) ?hd (cs := #[.int .i64 0, .int .i64 0]) (t := 55) ?hr ?_; (case hd => rfl); (case hg => rfl); (case hr => first | (go_simp; done) | (go_simp; rfl)); intro gb269 hg w118 hbox hb; have n0_ := zA (blk_below (g := gb261) (o := .cells #[.int .i64 a0_0, .int .i64 a0_1, .int .i64 a0_2, .int .i64 a0_3, .int .i64 a0_4] 57 (0, 0)) (zqB BK261.out) hb); have n1_ := zA (blk_below (g := gb262) (o := .cells #[.int .i64 a1_0, .int .i64 a1_1] 47 (0, 0)) (zqB BK262.out) hb); have n2_ := zA (blk_below (g := gb268) (o := .cells #[.int .i64 0, .int .i64 0] 55 (0, 0)) (zqB BK268.out) hb); have n3_ := zA (below_step (zqI HB.out GE261.out GE262.out GE268.out) hb); have n4_ := zA (hbox); have n5_ := zA ((by rw [hg]; exact (below_size (zqI HB.out GE261.out GE262.out GE268.out)) : w.heap.size ≤ gb269)); have n6_ := zA ((by rw [hg]; exact (below_size (zqI HB.out GE261.out GE262.out GE268.out)) : w.heap.size ≤ gb269)); have n7_ := zA ((by rw [hg]; exact Nat.ne_of_lt (blk_lt (g := gb261) (o := .cells #[.int .i64 a0_0, .int .i64 a0_1, .int .i64 a0_2, .int .i64 a0_3, .int .i64 a0_4] 57 (0, 0)) (zqB BK261.out)) : gb261 ≠ gb269)); have n8_ := zA ((by rw [hg]; exact Nat.ne_of_gt (blk_lt (g := gb261) (o := .cells #[.int .i64 a0_0, .int .i64 a0_1, .int .i64 a0_2, .int .i64 a0_3, .int .i64 a0_4] 57 (0, 0)) (zqB BK261.out)) : gb269 ≠ gb261)); have n9_ := zA ((by rw [hg]; exact Nat.ne_of_lt (blk_lt (g := gb262) (o := .cells #[.int .i64 a1_0, .int .i64 a1_1] 47 (0, 0)) (zqB BK262.out)) : gb262 ≠ gb269)); have n10_ := zA ((by rw [hg]; exact Nat.ne_of_gt (blk_lt (g := gb262) (o := .cells #[.int .i64 a1_0, .int .i64 a1_1] 47 (0, 0)) (zqB BK262.out)) : gb269 ≠ gb262)); have n11_ := zA ((by rw [hg]; exact Nat.ne_of_lt (blk_lt (g := gb268) (o := .cells #[.int .i64 0, .int .i64 0] 55 (0, 0)) (zqB BK268.out)) : gb268 ≠ gb269)); have n12_ := zA ((by rw [hg]; exact Nat.ne_of_gt (blk_lt (g := gb268) (o := .cells #[.int .i64 0, .int .i64 0] 55 (0, 0)) (zqB BK268.out)) : gb269 ≠ gb268)); clear BK261; clear BK262; clear BK268; clear HB; have BK261 := n0_; have BK262 := n1_; have BK268 := n2_; have HB := n3_; have BK269 := n4_; have GW269 := n5_; have GE269 := n6_; have NB261_269 := n7_; have NB269_261 := n8_; have NB262_269 := n9_; have NB269_262 := n10_; have NB268_269 := n11_; have NB269_268 := n12_; clear n0_ n1_ n2_ n3_ n4_ n5_ n6_ n7_ n8_ n9_ n10_ n11_ n12_; clear hb hbox hg; have hnb119 := NB268_261.out; have hnc119 := NB261_268.out; have hnb120 := NB268_262.out; have hnc120 := NB262_268.out; have hnb121 := NB268_269.out; have hnc121 := NB269_268.out; have hcz122_0 : w118.cell? ⟨gb268, 0, none⟩ = some (.int .i64 0) := (blk_cell BK268.out 0).trans rfl; have hcz122_1 : w118.cell? ⟨gb268, 1, none⟩ = some (.int .i64 0) := (blk_cell BK268.out 1).trans rfl; have hfz122_0 := blk_frozen BK268.out 0; have hfz122_1 := blk_frozen BK268.out 1; have hnb123 := NB269_261.out; have hnc123 := NB261_269.out; have hnb124 := NB269_262.out; have hnc124 := NB262_269.out; have hcz125_0 : w118.cell? ⟨gb269, 0, none⟩ = some (.int .i64 0) := (blk_cell BK269.out 0).trans rfl; have hcz125_1 : w118.cell? ⟨gb269, 1, none⟩ = some (.int .i64 0) := (blk_cell BK269.out 1).trans rfl; have hfz125_0 := blk_frozen BK269.out 0; have hfz125_1 := blk_frozen BK269.out 1; have hcz126_0 : w118.cell? ⟨gb262, 0, none⟩ = some (.int .i64 a1_0) := (blk_cell BK262.out 0).trans rfl; have hcz126_1 : w118.cell? ⟨gb262, 1, none⟩ = some (.int .i64 a1_1) := (blk_cell BK262.out 1).trans rfl; have hfz126_0 := blk_frozen BK262.out 0; have hfz126_1 := blk_frozen BK262.out 1) | ((with_reducible refine gate_callee (f := 54) rfl ?_); refine goesL_ (some 32) rfl rfl Try.func54 (by kernel_rfl) rfl #[.agg #[.int .i64 a1_0, .int .i64 a1_1]] rfl zqE ?_; (with_reducible refine (punch_Slot_good.calls a1_0 a1_1 false _ A5.out).mono ?_); rintro e w127 ⟨rfl, hb⟩; refine ⟨_, rfl, ?_⟩; have n0_ := zA (blk_below (g := gb261) (o := .cells #[.int .i64 a0_0, .int .i64 a0_1, .int .i64 a0_2, .int .i64 a0_3, .int .i64 a0_4] 57 (0, 0)) (by (with_reducible repeat (first | refine blk_drewN ?_ _ | refine blk_drew ?_ | refine blk_alloc ?_ _)); refine blk_far ?_ NB261_269.out _; (with_reducible repeat (first | refine blk_drewN ?_ _ | refine blk_drew ?_ | refine blk_alloc ?_ _)); refine blk_far ?_ NB261_269.out _; (with_reducible repeat (first | refine blk_drewN ?_ _ | refine blk_drew ?_ | refine blk_alloc ?_ _)); refine blk_far ?_ NB261_268.out _; (with_reducible repeat (first | refine blk_drewN ?_ _ | refine blk_drew ?_ | refine blk_alloc ?_ _)); refine blk_far ?_ NB261_268.out _; (with_reducible repeat (first | refine blk_drewN ?_ _ | refine blk_drew ?_ | refine blk_alloc ?_ _)); exact BK261.out) hb); have n1_ := zA (blk_below (g := gb262) (o := .cells #[.int .i64 a1_0, .int .i64 a1_1] 47 (0, 0)) (by (with_reducible repeat (first | refine blk_drewN ?_ _ | refine blk_drew ?_ | refine blk_alloc ?_ _)); refine blk_far ?_ NB262_269.out _; (with_reducible repeat (first | refine blk_drewN ?_ _ | refine blk_drew ?_ | refine blk_alloc ?_ _)); refine blk_far ?_ NB262_269.out _; (with_reducible repeat (first | refine blk_drewN ?_ _ | refine blk_drew ?_ | refine blk_alloc ?_ _)); refine blk_far ?_ NB262_268.out _; (with_reducible repeat (first | refine blk_drewN ?_ _ | refine blk_drew ?_ | refine blk_alloc ?_ _)); refine blk_far ?_ NB262_268.out _; (with_reducible repeat (first | refine blk_drewN ?_ _ | refine blk_drew ?_ | refine blk_alloc ?_ _)); exact BK262.out) hb); have n2_ := zA (blk_below (g := gb268) (o := .cells #[.int .i64 t263, .int .i64 t264] 55 (0, 0)) (by (with_reducible repeat (first | refine blk_drewN ?_ _ | refine blk_drew ?_ | refine blk_alloc ?_ _)); refine blk_far ?_ NB268_269.out _; (with_reducible repeat (first | refine blk_drewN ?_ _ | refine blk_drew ?_ | refine blk_alloc ?_ _)); refine blk_far ?_ NB268_269.out _; (with_reducible repeat (first | refine blk_drewN ?_ _ | refine blk_drew ?_ | refine blk_alloc ?_ _)); refine blk_put (cs := #[.int .i64 t263, .int .i64 0]) ?_ 1 _ rfl; (with_reducible repeat (first | refine blk_drewN ?_ _ | refine blk_drew ?_ | refine blk_alloc ?_ _)); refine blk_put (cs := #[.int .i64 0, .int .i64 0]) ?_ 0 _ rfl; (with_reducible repeat (first | refine blk_drewN ?_ _ | refine blk_drew ?_ | refine blk_alloc ?_ _)); exact BK268.out) hb); have n3_ := zA (blk_below (g := gb269) (o := .cells #[.int .i64 t265, .int .i64 t266] 55 (0, 0)) (by (with_reducible repeat (first | refine blk_drewN ?_ _ | refine blk_drew ?_ | refine blk_alloc ?_ _)); refine blk_put (cs := #[.int .i64 t265, .int .i64 0]) ?_ 1 _ rfl; (with_reducible repeat (first | refine blk_drewN ?_ _ | refine blk_drew ?_ | refine blk_alloc ?_ _)); refine blk_put (cs := #[.int .i64 0, .int .i64 0]) ?_ 0 _ rfl; (with_reducible repeat (first | refine blk_drewN ?_ _ | refine blk_drew ?_ | refine blk_alloc ?_ _)); refine blk_far ?_ NB269_268.out _; (with_reducible repeat (first | refine blk_drewN ?_ _ | refine blk_drew ?_ | refine blk_alloc ?_ _)); refine blk_far ?_ NB269_268.out _; (with_reducible repeat (first | refine blk_drewN ?_ _ | refine blk_drew ?_ | refine blk_alloc ?_ _)); exact BK269.out) hb); have n4_ := zA (below_step (zqJ HB.out GE261.out GE262.out GE268.out GE269.out) hb); clear BK261; clear BK262; clear BK268; clear BK269; clear HB; have BK261 := n0_; have BK262 := n1_; have BK268 := n2_; have BK269 := n3_; have HB := n4_; clear n0_ n1_ n2_ n3_ n4_; (try clear hb); (try clear hb2); (try clear hk); (try clear hi)))
   go_ret2
   exact ⟨_, zqR, by first | exact Kd.R_nil _ _ _ _ _ | exact Kd.N_nil _ _ _ _ _ | exact Kd.V_nil _ _ _ _ _ | exact Kd.Q_nil _ _ _ _ _ | exact Kd.S_nil _ _ _ _ _, zqJ HB.out GE261.out GE262.out GE268.out GE269.out⟩
 ·
  rw [if_neg c4] at H
  have c4b0 : (t267 == 0) = false := beq_eq_false_iff_ne.mpr c4
  have c4b1 : (t267 != 0) = true := bne_iff_ne.mpr c4
  simp only [Option.some.injEq, Prod.mk.injEq] at H
  obtain ⟨rfl, rfl⟩ := H
  go_enter Try.func32, Try.ntmps32
  go_wp2_with (first | ((with_reducible refine gate_dst (N := 2) rfl ?_); refine box_event ?hg (N := 2) ?hd (cs := #[.int .i64 a0_0, .int .i64 a0_1, .int .i64 a0_2, .int .i64 a0_3, .int .i64 a0_4]) (t := 57) ?hr ?_; (case hd => rfl); (case hg => rfl); (case hr => first | (go_simp; done) | (go_simp; rfl)); intro gb261 hg w128 hbox hb; have n0_ := zA (below_step (zqA HB.out) hb); have n1_ := zA (hbox); have n2_ := zA ((by rw [hg]; exact (below_size (zqA HB.out)) : w.heap.size ≤ gb261)); have n3_ := zA ((by rw [hg]; exact (below_size (zqA HB.out)) : w.heap.size ≤ gb261)); clear HB; have HB := n0_; have BK261 := n1_; have GW261 := n2_; have GE261 := n3_; clear n0_ n1_ n2_ n3_; clear hb hbox hg) | ((with_reducible refine gate_dst (N := 3) rfl ?_); refine box_event ?hg (N := 3) ?hd (cs := #[.int .i64 a1_0, .int .i64 a1_1]) (t := 47) ?hr ?_; (case hd => rfl); (case hg => rfl); (case hr => first | (go_simp; done) | (go_simp; rfl)); intro gb262 hg w129 hbox hb; have n0_ := zA (blk_below (g := gb261) (o := .cells #[.int .i64 a0_0, .int .i64 a0_1, .int .i64 a0_2, .int .i64 a0_3, .int .i64 a0_4] 57 (0, 0)) (zqB BK261.out) hb); have n1_ := zA (below_step (zqG HB.out GE261.out) hb); have n2_ := zA (hbox); have n3_ := zA ((by rw [hg]; exact (below_size (zqG HB.out GE261.out)) : w.heap.size ≤ gb262)); have n4_ := zA ((by rw [hg]; exact (below_size (zqG HB.out GE261.out)) : w.heap.size ≤ gb262)); have n5_ := zA ((by rw [hg]; exact Nat.ne_of_lt (blk_lt (g := gb261) (o := .cells #[.int .i64 a0_0, .int .i64 a0_1, .int .i64 a0_2, .int .i64 a0_3, .int .i64 a0_4] 57 (0, 0)) (zqB BK261.out)) : gb261 ≠ gb262)); have n6_ := zA ((by rw [hg]; exact Nat.ne_of_gt (blk_lt (g := gb261) (o := .cells #[.int .i64 a0_0, .int .i64 a0_1, .int .i64 a0_2, .int .i64 a0_3, .int .i64 a0_4] 57 (0, 0)) (zqB BK261.out)) : gb262 ≠ gb261)); clear BK261; clear HB; have BK261 := n0_; have HB := n1_; have BK262 := n2_; have GW262 := n3_; have GE262 := n4_; have NB261_262 := n5_; have NB262_261 := n6_; clear n0_ n1_ n2_ n3_ n4_ n5_ n6_; clear hb hbox hg; have hnb130 := NB261_262.out; have hnc130 := NB262_261.out; have hcz131_0 : w129.cell? ⟨gb261, 0, none⟩ = some (.int .i64 a0_0) := (blk_cell BK261.out 0).trans rfl; have hcz131_1 : w129.cell? ⟨gb261, 1, none⟩ = some (.int .i64 a0_1) := (blk_cell BK261.out 1).trans rfl; have hcz131_2 : w129.cell? ⟨gb261, 2, none⟩ = some (.int .i64 a0_2) := (blk_cell BK261.out 2).trans rfl; have hcz131_3 : w129.cell? ⟨gb261, 3, none⟩ = some (.int .i64 a0_3) := (blk_cell BK261.out 3).trans rfl; have hcz131_4 : w129.cell? ⟨gb261, 4, none⟩ = some (.int .i64 a0_4) := (blk_cell BK261.out 4).trans rfl; have hfz131_0 := blk_frozen BK261.out 0; have hfz131_1 := blk_frozen BK261.out 1; have hfz131_2 := blk_frozen BK261.out 2; have hfz131_3 := blk_frozen BK261.out 3; have hfz131_4 := blk_frozen BK261.out 4) | ((with_reducible refine gate_callee (f := 30) rfl ?_); refine goesL_ (some 17) rfl rfl Try.func30 (by kernel_rfl) rfl #[.agg #[.int .i64 a0_0, .int .i64 a0_1, .int .i64 a0_2, .int .i64 a0_3, .int .i64 a0_4]] rfl zqE ?_; (with_reducible refine (punch_Bars.calls a0_0 a0_1 a0_2 a0_3 a0_4 t263 t264 t265 t266 t267 _ A3.out).mono ?_); rintro e w132 ⟨rfl, hb⟩; refine ⟨_, rfl, ?_⟩; have n0_ := zA (blk_below (g := gb261) (o := .cells #[.int .i64 a0_0, .int .i64 a0_1, .int .i64 a0_2, .int .i64 a0_3, .int .i64 a0_4] 57 (0, 0)) (zqB BK261.out) hb); have n1_ := zA (blk_below (g := gb262) (o := .cells #[.int .i64 a1_0, .int .i64 a1_1] 47 (0, 0)) (zqB BK262.out) hb); have n2_ := zA (below_step (zqH HB.out GE261.out GE262.out) hb); clear BK261; clear BK262; clear HB; have BK261 := n0_; have BK262 := n1_; have HB := n2_; clear n0_ n1_ n2_; (try clear hb); (try clear hb2); (try clear hk); (try clear hi)) | ((with_reducible refine gate_dst (N := 6) rfl ?_); refine box_event ?hg (N := 6) ?hd (cs := #[.int .i64 0, .int .i64 0]) (t := 55) ?hr ?_; (case hd => rfl); (case hg => rfl); (case hr => first | (go_simp; done) | (go_simp; rfl)); intro gb268 hg w133 hbox hb; have n0_ := zA (blk_below (g := gb261) (o := .cells #[.int .i64 a0_0, .int .i64 a0_1, .int .i64 a0_2, .int .i64 a0_3, .int .i64 a0_4] 57 (0, 0)) (zqB BK261.out) hb); have n1_ := zA (blk_below (g := gb262) (o := .cells #[.int .i64 a1_0, .int .i64 a1_1] 47 (0, 0)) (zqB BK262.out) hb); have n2_ := zA (below_step (zqH HB.out GE261.out GE262.out) hb); have n3_ := zA (hbox); have n4_ := zA ((by rw [hg]; exact (below_size (zqH HB.out GE261.out GE262.out)) : w.heap.size ≤ gb268)); have n5_ := zA ((by rw [hg]; exact (below_size (zqH HB.out GE261.out GE262.out)) : w.heap.size ≤ gb268)); have n6_ := zA ((by rw [hg]; exact Nat.ne_of_lt (blk_lt (g := gb261) (o := .cells #[.int .i64 a0_0, .int .i64 a0_1, .int .i64 a0_2, .int .i64 a0_3, .int .i64 a0_4] 57 (0, 0)) (zqB BK261.out)) : gb261 ≠ gb268)); have n7_ := zA ((by rw [hg]; exact Nat.ne_of_gt (blk_lt (g := gb261) (o := .cells #[.int .i64 a0_0, .int .i64 a0_1, .int .i64 a0_2, .int .i64 a0_3, .int .i64 a0_4] 57 (0, 0)) (zqB BK261.out)) : gb268 ≠ gb261)); have n8_ := zA ((by rw [hg]; exact Nat.ne_of_lt (blk_lt (g := gb262) (o := .cells #[.int .i64 a1_0, .int .i64 a1_1] 47 (0, 0)) (zqB BK262.out)) : gb262 ≠ gb268)); have n9_ := zA ((by rw [hg]; exact Nat.ne_of_gt (blk_lt (g := gb262) (o := .cells #[.int .i64 a1_0, .int .i64 a1_1] 47 (0, 0)) (zqB BK262.out)) : gb268 ≠ gb262)); clear BK261; clear BK262; clear HB; have BK261 := n0_; have BK262 := n1_; have HB := n2_; have BK268 := n3_; have GW268 := n4_; have GE268 := n5_; have NB261_268 := n6_; have NB268_261 := n7_; have NB262_268 := n8_; have NB268_262 := n9_; clear n0_ n1_ n2_ n3_ n4_ n5_ n6_ n7_ n8_ n9_; clear hb hbox hg) | ((with_reducible refine gate_dst (N := 7) rfl ?_); refine box_event ?hg (N := 7) ?hd (cs := #[.int .i64 0, .int .i64 0]) (t := 55) ?hr ?_; (case hd => rfl); (case hg => rfl); (case hr => first | (go_simp; done) | (go_simp; rfl)); intro gb269 hg w134 hbox hb; have n0_ := zA (blk_below (g := gb261) (o := .cells #[.int .i64 a0_0, .int .i64 a0_1, .int .i64 a0_2, .int .i64 a0_3, .int .i64 a0_4] 57 (0, 0)) (zqB BK261.out) hb); have n1_ := zA (blk_below (g := gb262) (o := .cells #[.int .i64 a1_0, .int .i64 a1_1] 47 (0, 0)) (zqB BK262.out) hb); have n2_ := zA (blk_below (g := gb268) (o := .cells #[.int .i64 0, .int .i64 0] 55 (0, 0)) (zqB BK268.out) hb); have n3_ := zA (below_step (zqI HB.out GE261.out GE262.out GE268.out) hb); have n4_ := zA (hbox); have n5_ := zA ((by rw [hg]; exact (below_size (zqI HB.out GE261.out GE262.out GE268.out)) : w.heap.size ≤ gb269)); have n6_ := zA ((by rw [hg]; exact (below_size (zqI HB.out GE261.out GE262.out GE268.out)) : w.heap.size ≤ gb269)); have n7_ := zA ((by rw [hg]; exact Nat.ne_of_lt (blk_lt (g := gb261) (o := .cells #[.int .i64 a0_0, .int .i64 a0_1, .int .i64 a0_2, .int .i64 a0_3, .int .i64 a0_4] 57 (0, 0)) (zqB BK261.out)) : gb261 ≠ gb269)); have n8_ := zA ((by rw [hg]; exact Nat.ne_of_gt (blk_lt (g := gb261) (o := .cells #[.int .i64 a0_0, .int .i64 a0_1, .int .i64 a0_2, .int .i64 a0_3, .int .i64 a0_4] 57 (0, 0)) (zqB BK261.out)) : gb269 ≠ gb261)); have n9_ := zA ((by rw [hg]; exact Nat.ne_of_lt (blk_lt (g := gb262) (o := .cells #[.int .i64 a1_0, .int .i64 a1_1] 47 (0, 0)) (zqB BK262.out)) : gb262 ≠ gb269)); have n10_ := zA ((by rw [hg]; exact Nat.ne_of_gt (blk_lt (g := gb262) (o := .cells #[.int .i64 a1_0, .int .i64 a1_1] 47 (0, 0)) (zqB BK262.out)) : gb269 ≠ gb262)); have n11_ := zA ((by rw [hg]; exact Nat.ne_of_lt (blk_lt (g := gb268) (o := .cells #[.int .i64 0, .int .i64 0] 55 (0, 0)) (zqB BK268.out)) : gb268 ≠ gb269)); have n12_ := zA ((by rw [hg]; exact Nat.ne_of_gt (blk_lt (g := gb268) (o := .cells #[.int .i64 0, .int .i64 0] 55 (0, 0)) (zqB BK268.out)) : gb269 ≠ gb268)); clear BK261; clear BK262; clear BK268; clear HB; have BK261 := n0_; have BK262 := n1_; have BK268 := n2_; have HB := n3_; have BK269 := n4_; have GW269 := n5_; have GE269 := n6_; have NB261_269 := n7_; have NB269_261 := n8_; have NB262_269 := n9_; have NB269_262 := n10_; have NB268_269 := n11_; have NB269_268 := n12_; clear n0_ n1_ n2_ n3_ n4_ n5_ n6_ n7_ n8_ n9_ n10_ n11_ n12_; clear hb hbox hg; have hnb135 := NB268_261.out; have hnc135 := NB261_268.out; have hnb136 := NB268_262.out; have hnc136 := NB262_268.out; have hnb137 := NB268_269.out; have hnc137 := NB269_268.out; have hcz138_0 : w134.cell? ⟨gb268, 0, none⟩ = some (.int .i64 0) := (blk_cell BK268.out 0).trans rfl; have hcz138_1 : w134.cell? ⟨gb268, 1, none⟩ = some (.int .i64 0) := (blk_cell BK268.out 1).trans rfl; have hfz138_0 := blk_frozen BK268.out 0; have hfz138_1 := blk_frozen BK268.out 1; have hnb139 := NB269_261.out; have hnc139 := NB261_269.out; have hnb140 := NB269_262.out; have hnc140 := NB262_269.out; have hcz141_0 : w134.cell? ⟨gb269, 0, none⟩ = some (.int .i64 0) := (blk_cell BK269.out 0).trans rfl; have hcz141_1 : w134.cell? ⟨gb269, 1, none⟩ = some (.int .i64 0) := (blk_cell BK269.out 1).trans rfl; have hfz141_0 := blk_frozen BK269.out 0; have hfz141_1 := blk_frozen BK269.out 1; have hcz142_0 : w134.cell? ⟨gb262, 0, none⟩ = some (.int .i64 a1_0) := (blk_cell BK262.out 0).trans rfl; have hcz142_1 : w134.cell? ⟨gb262, 1, none⟩ = some (.int .i64 a1_1) := (blk_cell BK262.out 1).trans rfl; have hfz142_0 := blk_frozen BK262.out 0; have hfz142_1 := blk_frozen BK262.out 1))
  go_ret2
  exact ⟨_, zqR, by first | exact Kd.R_nil _ _ _ _ _ | exact Kd.N_nil _ _ _ _ _ | exact Kd.V_nil _ _ _ _ _ | exact Kd.Q_nil _ _ _ _ _ | exact Kd.S_nil _ _ _ _ _, zqJ HB.out GE261.out GE262.out GE268.out GE269.out⟩
end Go.Proofs.Ytegffliopblajaa.P
end
