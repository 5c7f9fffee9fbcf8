/- Words and contracts for a claim. -/
import Derived.Test.YtegffliopblajaaBase7
import Derived.Shelf.SlSortCmp.Kit1
import Derived.Sort.WalkB2
import Derived.Sort.WalkB12
section
namespace Go.Proofs.Ytegffliopblajaa.P
open Go.Shelf Go.RowKit Go.Lib Go.Sort Go.Stb Go.Proofs
set_option linter.unusedVariables false
set_option linter.unusedSimpArgs false
variable {α : Type} [Inhabited α]
set_option maxHeartbeats 4000000 in
set_option maxRecDepth 1000000 in
theorem swap106 (enc : α → Value) (g : Nat) (cb : Array Value) (blk off cap sz a b n : Nat) (d0 d : Array α) (w0 w : World)
  (R : Row1 enc w0 blk off d0) (hs : d0.size = sz) (hz : d.size = sz) (S : SW enc w0 blk off d w) (hab : a + n ≤ sz) (hb : b + n ≤ sz) (hsz : sz < 4611686018427387904) :
  Calls Try.prog 106 #[.slice (some ⟨blk, off, none⟩) sz cap, .int .i64 a, .int .i64 b, .int .i64 n, .func (.func g) #[] cb] w fun e w' => e = .returned (.tuple #[]) ∧ SW enc w0 blk off (swr a b n d) w' := by
 have mixed : Try.prog.follows .mixedOrders = true := by kernel_rfl
 have t26 := Try.underlying26
 have a26 := Try.isAgg26
 have z26 := Try.sizeOf26
 have t3 := Try.underlying3
 have a3 := Try.isAgg3
 have z3 := Try.sizeOf3
 have hcl0 := R.hO.cells
 simp only [Value.cells] at hcl0
 have hst := R.hO.store Try.prog
 have S0 : Aside (SW enc w0 blk off d w) := S
 clear S
 go_enter Try.func106, Try.ntmps106
 go_wp2
 go_loopg [10] n (fun kx s10 wr => ∃ (i : Nat) (dk : Array α), s10 = .int .i64 i ∧ i ≤ n ∧ n - i ≤ kx ∧ dk.size = sz ∧ Aside (SW enc w0 blk off dk wr) ∧ dk = swr a b i d)
 case atStart => exact ⟨0, d, rfl, Nat.zero_le _, Nat.le_refl _, hz, S0, rfl⟩
 case round =>
  clear S0
  obtain ⟨i, dk, rfl, hin, hkx, hds, S1, heq⟩ := hrel
  by_cases hlt : i < n
  ·
   have hltz : (i : Int) < (n : Int) := by omega
   go_wp2_with fail
   obtain ⟨iN, hiN⟩ : ∃ q, q = a + i := ⟨_, rfl⟩
   obtain ⟨jN, hjN⟩ : ∃ q, q = b + i := ⟨_, rfl⟩
   have ea : ((a : Int) + (i : Int)).toNat = iN := by omega
   have pa : (0 : Int) ≤ (a : Int) + (i : Int) := by omega
   have ba : (a : Int) + (i : Int) < (sz : Int) := by omega
   have ra : IntKind.i64.wrap ((a : Int) + (i : Int)) = (a : Int) + (i : Int) := by rw [IntKind.wrap_i64]; omega
   have ec : ((b : Int) + (i : Int)).toNat = jN := by omega
   have pc : (0 : Int) ≤ (b : Int) + (i : Int) := by omega
   have bc : (b : Int) + (i : Int) < (sz : Int) := by omega
   have rc : IntKind.i64.wrap ((b : Int) + (i : Int)) = (b : Int) + (i : Int) := by rw [IntKind.wrap_i64]; omega
   obtain ⟨x1, hx1⟩ : ∃ x, x = dk[a + i]! := ⟨_, rfl⟩
   obtain ⟨y1, hy1⟩ : ∃ x, x = dk[b + i]! := ⟨_, rfl⟩
   have S2 : Aside (SW enc w0 blk off (swp dk (a + i) (b + i)) ((wr.setCell ⟨blk, off + iN, none⟩ (enc y1)).setCell ⟨blk, off + jN, none⟩ (enc x1)).drew) := by rw [hiN, hjN, hx1, hy1]; exact S1.out.swapped R (a + i) (b + i) (by omega) (by omega)
   have c1a := S1.out.c1 R (by omega) (a + i) (by omega)
   have c1b := S1.out.c1 R (by omega) (b + i) (by omega)
   have f1a := S1.out.f1 R (by omega) (a + i) (by omega)
   have f1b := S1.out.f1 R (by omega) (b + i) (by omega)
   obtain ⟨u1, c1c⟩ := S1.out.c2 R (by omega) (a + i) (b + i) (by omega) (by omega) (enc y1)
   rw [← hjN, ← hiN] at c1c
   rw [← hx1, ← hiN] at c1a
   rw [← hy1, ← hjN] at c1b
   rw [← hiN] at f1a
   rw [← hjN] at f1b
   clear S1 hx1 hy1 hiN hjN
   go_wp2_with fail
   go_big_region_o
   clear c1a c1b c1c f1a f1b; generalize ((wr.setCell ⟨blk, off + iN, none⟩ (enc y1)).setCell ⟨blk, off + jN, none⟩ (enc x1)).drew = w2 at S2 ⊢; clear ea ec
   go_wp2
   go_roundg (n - (i + 1))
   case measure => omega
   case rel =>
    exact ⟨i + 1, swp dk (a + i) (b + i), by first | rfl | go_num | simp, by omega, Nat.le_refl _, by rw [size_swp]; exact hds, S2, by rw [heq]; rfl⟩
  ·
   have hltz : ¬ (i : Int) < (n : Int) := by omega
   obtain rfl : i = n := by omega
   go_wp2
   go_end0
   exact ⟨rfl, by rw [← heq]; exact S1.out⟩
set_option maxHeartbeats 4000000 in
set_option maxRecDepth 1000000 in
theorem rot95 (enc : α → Value) (g : Nat) (cb : Array Value) (blk off cap sz a m b : Nat) (d0 d : Array α) (w0 w : World)
  (R : Row1 enc w0 blk off d0) (hs : d0.size = sz) (hz : d.size = sz) (S : SW enc w0 blk off d w) (ham : a < m) (hmb : m < b) (hb : b ≤ sz) (hsz : sz < 4611686018427387904) :
  Calls Try.prog 95 #[.slice (some ⟨blk, off, none⟩) sz cap, .int .i64 a, .int .i64 m, .int .i64 b, .func (.func g) #[] cb] w fun e w' => e = .returned (.tuple #[]) ∧ SW enc w0 blk off (rot (b - a) (m - a) (b - m) m d) w' := by
 have S0 : Aside (SW enc w0 blk off d w) := S
 clear S
 have r0 : IntKind.i64.wrap ((m : Int) - (a : Int)) = ((m - a : Nat) : Int) := by rw [IntKind.wrap_i64]; omega
 have r1 : IntKind.i64.wrap ((b : Int) - (m : Int)) = ((b - m : Nat) : Int) := by rw [IntKind.wrap_i64]; omega
 obtain ⟨i0, hi0⟩ : ∃ q, q = m - a := ⟨_, rfl⟩
 obtain ⟨j0, hj0⟩ : ∃ q, q = b - m := ⟨_, rfl⟩
 rw [← hi0] at r0 ⊢
 rw [← hj0] at r1 ⊢
 have HI : Aside _ := (And.intro hi0 hj0)
 clear hi0 hj0
 go_enter Try.func95, Try.ntmps95
 go_wp2
 go_loopg [10, 11] (b - a) (fun kx s10 s11 wr => ∃ (i j f : Nat) (dk : Array α), s10 = .int .i64 i ∧ s11 = .int .i64 j ∧ 0 < i ∧ 0 < j ∧ i ≤ i0 ∧ j ≤ j0 ∧ i + j ≤ f ∧ f ≤ kx ∧ dk.size = sz ∧ Aside (SW enc w0 blk off dk wr) ∧ rot f i j m dk = rot (b - a) i0 j0 m d)
 case atStart => exact ⟨i0, j0, b - a, d, rfl, rfl, by have := HI.out; omega, by have := HI.out; omega, Nat.le_refl _, Nat.le_refl _, by have := HI.out; omega, Nat.le_refl _, hz, S0, rfl⟩
 case round =>
  clear S0 r0 r1
  obtain ⟨i, j, f, dk, rfl, rfl, h1, h2, h3, h4, h5, h6, hds, S1, heq⟩ := hrel
  obtain ⟨f', rfl⟩ : ∃ f', f = f' + 1 := ⟨f - 1, by omega⟩
  rw [rot] at heq
  obtain ⟨p, hp⟩ : ∃ p, p = m - i := ⟨_, rfl⟩
  have rp : IntKind.i64.wrap ((m : Int) - (i : Int)) = (p : Int) := by have := HI.out; rw [IntKind.wrap_i64]; omega
  rw [← hp] at heq
  have HP : Aside _ := hp
  clear hp
  by_cases c : i = j
  ·
   subst c
   rw [if_pos rfl] at heq
   have HE : Aside _ := heq
   clear heq
   go_wp2_with fail
   refine (swap106 enc g cb blk off cap sz p m i d0 dk w0 _ R hs hds S1.out (by first | (have := HI.out; have := HP.out; have := HP2.out; omega) | (have := HI.out; have := HP.out; omega)) (by first | (have := HI.out; have := HP.out; have := HP2.out; omega) | (have := HI.out; have := HP.out; omega)) hsz).mono ?_
   rintro e w1 ⟨rfl, S2⟩
   rw [HE.out] at S2
   have S3 : Aside _ := S2
   clear S2
   go_wp2
   go_end0
   exact ⟨rfl, S3.out⟩
  ·
   rw [if_neg c] at heq
   have cz : ¬ ((i : Int) = (j : Int)) := by omega
   by_cases q : j < i
   ·
    rw [if_pos q] at heq
    have qz : (j : Int) < (i : Int) := by omega
    obtain ⟨i', hi'⟩ : ∃ i', i' = i - j := ⟨_, rfl⟩
    have ri : IntKind.i64.wrap ((i : Int) - (j : Int)) = (i' : Int) := by have := HI.out; rw [IntKind.wrap_i64]; omega
    rw [← hi'] at heq
    have HP2 : Aside _ := hi'
    clear hi'
    have HE : Aside _ := heq
    clear heq
    go_wp2_with fail
    refine (swap106 enc g cb blk off cap sz p m j d0 dk w0 _ R hs hds S1.out (by first | (have := HI.out; have := HP.out; have := HP2.out; omega) | (have := HI.out; have := HP.out; omega)) (by first | (have := HI.out; have := HP.out; have := HP2.out; omega) | (have := HI.out; have := HP.out; omega)) hsz).mono ?_
    rintro e w1 ⟨rfl, S2⟩
    have S3 : Aside _ := S2
    clear S2 S1
    go_wp2
    go_roundg f'
    case measure => omega
    case rel => exact ⟨i', j, f', swr p m j dk, rfl, rfl, by have := HP2.out; omega, h2, by have := HP2.out; omega, h4, by have := HP2.out; omega, Nat.le_refl _, by rw [swr_size]; exact hds, S3, HE.out⟩
   ·
    rw [if_neg q] at heq
    have qz : ¬ (j : Int) < (i : Int) := by omega
    obtain ⟨j', hj'⟩ : ∃ j', j' = j - i := ⟨_, rfl⟩
    have rj : IntKind.i64.wrap ((j : Int) - (i : Int)) = (j' : Int) := by have := HI.out; rw [IntKind.wrap_i64]; omega
    obtain ⟨p2, hp2⟩ : ∃ p2, p2 = m + j - i := ⟨_, rfl⟩
    have r2 : IntKind.i64.wrap ((m : Int) + (j : Int)) = (m : Int) + (j : Int) := by have := HI.out; rw [IntKind.wrap_i64]; omega
    have r3 : IntKind.i64.wrap ((m : Int) + (j : Int) - (i : Int)) = (p2 : Int) := by have := HI.out; rw [IntKind.wrap_i64]; omega
    rw [← hj', ← hp2] at heq
    have HP2 : Aside _ := And.intro hj' hp2
    clear hj' hp2
    have HE : Aside _ := heq
    clear heq
    go_wp2_with fail
    refine (swap106 enc g cb blk off cap sz p p2 i d0 dk w0 _ R hs hds S1.out (by first | (have := HI.out; have := HP.out; have := HP2.out; omega) | (have := HI.out; have := HP.out; omega)) (by first | (have := HI.out; have := HP.out; have := HP2.out; omega) | (have := HI.out; have := HP.out; omega)) hsz).mono ?_
    rintro e w1 ⟨rfl, S2⟩
    have S3 : Aside _ := S2
    clear S2 S1
    go_wp2
    go_roundg f'
    case measure => omega
    case rel => exact ⟨i, j', f', swr p p2 i dk, rfl, rfl, h1, by have := HP2.out; omega, h3, by have := HP2.out; omega, by have := HP2.out; omega, Nat.le_refl _, by rw [swr_size]; exact hds, S3, HE.out⟩
end Go.Proofs.Ytegffliopblajaa.P
end
