/- Words and contracts for a claim. -/
import Derived.Test.YtegffliopblajaaBase8
import Derived.Shelf.SlSortCmp.Insertion1
section
namespace Go.Proofs.Ytegffliopblajaa.P
open Go.Shelf Go.RowKit Go.Lib Go.Sort Go.Stb Go.Proofs
set_option linter.unusedVariables false
set_option linter.unusedSimpArgs false
variable {α : Type} [Inhabited α]
theorem srch_done {p : Nat → Bool} {i j : Nat} (h : ¬ i < j) : ∀ k, srch p k i j = i
  | 0 => rfl
  | k + 1 => by rw [srch, if_neg h]
theorem srch_fuel {p : Nat → Bool} : ∀ (k k' i j : Nat), j - i ≤ k → j - i ≤ k' → srch p k i j = srch p k' i j
  | 0, k', i, j, h, _ => by rw [srch, srch_done (by omega)]
  | k + 1, 0, i, j, _, h => by rw [srch_done (by omega), srch_done (by omega)]
  | k + 1, k' + 1, i, j, h, h' => by
    rw [srch, srch]
    by_cases c : i < j
    · rw [if_pos c, if_pos c]
      by_cases q : p ((i + j) / 2) = true
      · rw [if_pos q, if_pos q]; exact srch_fuel k k' _ _ (by omega) (by omega)
      · rw [if_neg q, if_neg q]; exact srch_fuel k k' _ _ (by omega) (by omega)
    · rw [if_neg c, if_neg c]
theorem srch_t {p : Nat → Bool} {i j : Nat} (h : i < j) (hp : p ((i + j) / 2) = true) (k : Nat) : srch p (k + 1) i j = srch p k ((i + j) / 2 + 1) j := by rw [srch, if_pos h, if_pos hp]
theorem srch_f {p : Nat → Bool} {i j : Nat} (h : i < j) (hp : p ((i + j) / 2) = false) (k : Nat) : srch p (k + 1) i j = srch p k i ((i + j) / 2) := by rw [srch, if_pos h, if_neg (by rw [hp]; decide)]
set_option maxHeartbeats 8000000 in
set_option maxRecDepth 1000000 in
theorem symM89_one (enc : α → Value) (cf : α → α → Int) (g : Nat) (cb : Array Value) (blk off cap sz : Nat) (d0 : Array α) (w0 : World)
  (eg : ∀ args w, (callFunc g args).run Try.prog w = .ok (.enter g args) w) (hcmp : CmpLays1 Try.prog g cb enc cf blk off d0.size w0) (R : Row1 enc w0 blk off d0) (hs : d0.size = sz) (hsz : sz < 1000000)
  (f a m b : Nat) (d : Array α) (w : World) (hz : d.size = sz) (S : SW enc w0 blk off d w) (ham : a < m) (hmb : m < b) (hb : b ≤ sz) (c1 : m - a = 1) :
  Calls Try.prog 89 #[.slice (some ⟨blk, off, none⟩) sz cap, .int .i64 a, .int .i64 m, .int .i64 b, .func (.func g) #[] cb] w fun e w' => e = .returned (.tuple #[]) ∧ SW enc w0 blk off (symM (ltOf cf) (f + 1) a m b d) w' := by
 have mixed : Try.prog.follows .mixedOrders = true := by kernel_rfl
 have t26 := Try.underlying26
 have a26 := Try.isAgg26
 have z26 := Try.sizeOf26
 have t3 := Try.underlying3
 have a3 := Try.isAgg3
 have z3 := Try.sizeOf3
 have hcl0 := R.hO.cells
 simp only [Value.cells] at hcl0
 have hst := R.hO.store Try.prog
 have S0 : Aside (SW enc w0 blk off d w) := S
 have HC : Aside _ := hcmp
 clear S hcmp
 obtain ⟨r, hr⟩ : ∃ r, srch (fun h => (ltOf cf) d[h]! d[a]!) (b - a) m b = r := ⟨_, rfl⟩
 have hr2 : srch (fun h => (ltOf cf) d[h]! d[a]!) (b - m) m b = r := by rw [← hr]; exact srch_fuel _ _ _ _ (Nat.le_refl _) (by omega)
 have HU : Aside (symM (ltOf cf) (f + 1) a m b d = shl a (r - 1 - a) d) := by show _ = _; rw [symM, if_pos c1, hr2]
 have r0 : IntKind.i64.wrap ((m : Int) - (a : Int)) = 1 := by rw [IntKind.wrap_i64]; omega
 have HR : Aside _ := hr
 clear hr hr2
 go_enter Try.func89, Try.ntmps89
 go_wp2
 go_loopg [10, 11] (b - a) (fun kx s1 s2 wr => ∃ (i j k : Nat), s1 = .int .i64 i ∧ s2 = .int .i64 j ∧ m ≤ i ∧ i ≤ j ∧ j ≤ b ∧ k ≤ kx ∧ j - i ≤ k ∧ Aside (SW enc w0 blk off d wr) ∧ Aside (srch (fun h => (ltOf cf) d[h]! d[a]!) k i j = r))
 case atStart => exact ⟨m, b, b - a, rfl, rfl, Nat.le_refl _, by omega, Nat.le_refl _, Nat.le_refl _, by omega, S0, HR.out⟩
 case round =>
  clear S0
  obtain ⟨i, j, k, rfl, rfl, h1, h2, h3, h4, h5, S1, HE⟩ := hrel
  by_cases c : i < j
  ·
   have cz : (i : Int) < (j : Int) := by omega
   have rs : IntKind.i64.wrap ((i : Int) + (j : Int)) = (i : Int) + (j : Int) := by rw [IntKind.wrap_i64]; omega
   obtain ⟨h, hh⟩ : ∃ h, h = (i + j) / 2 := ⟨_, rfl⟩
   have eh : ((i : Int) + (j : Int)) / 2 = (h : Int) := by omega
   have hb1 : i ≤ h := by omega
   have hb2 : h < j := by omega
   have rh : IntKind.i64.wrap ((h : Int) + 1) = (h : Int) + 1 := by rw [IntKind.wrap_i64]; omega
   have HH : Aside _ := hh
   clear hh
   obtain ⟨k, rfl⟩ : ∃ k', k = k' + 1 := ⟨k - 1, by omega⟩
   cases hlv : (ltOf cf) d[h]! d[a]! with
   | true =>
    obtain ⟨iNZ1, hiNZ1⟩ : ∃ q, q = h := ⟨_, rfl⟩
    have eiZ1 : ((h : Int)).toNat = iNZ1 := by omega
    have piZ1 : (0 : Int) ≤ (h : Int) := by omega
    have biZ1 : (h : Int) < (sz : Int) := by omega
    have riZ1 : IntKind.i64.wrap ((h : Int)) = (h : Int) := by rw [IntKind.wrap_i64]; omega
    obtain ⟨jNZ1, hjNZ1⟩ : ∃ q, q = a := ⟨_, rfl⟩
    have ejZ1 : ((a : Int)).toNat = jNZ1 := by omega
    have pjZ1 : (0 : Int) ≤ (a : Int) := by omega
    have bjZ1 : (a : Int) < (sz : Int) := by omega
    have rjZ1 : IntKind.i64.wrap ((a : Int)) = (a : Int) := by rw [IntKind.wrap_i64]; omega
    obtain ⟨xZ1, hxZ1⟩ : ∃ x, x = d[h]! := ⟨_, rfl⟩
    obtain ⟨yZ1, hyZ1⟩ : ∃ x, x = d[a]! := ⟨_, rfl⟩
    have lZ1a := S1.out.cl R (by omega) (h) (by omega)
    have lZ1b := S1.out.cl R (by omega) (a) (by omega)
    rw [← hxZ1, ← hiNZ1] at lZ1a
    rw [← hyZ1, ← hjNZ1] at lZ1b
    have hcZ1 := S1.out.cmp HC.out (by omega) xZ1 yZ1
    have hvZ1 : cf xZ1 yZ1 < 0 := by rw [hxZ1, hyZ1]; exact of_decide_eq_true hlv
    have hdZ1 : decide (cf xZ1 yZ1 < 0) = true := decide_eq_true hvZ1
    clear hxZ1 hyZ1 hiNZ1 hjNZ1
    go_wp2_with fail
    go_quiet_grown (first | (go_at_fn g; refine Calls.grown_of (hcZ1 _ _)))
    have S2 : Aside (SW enc w0 blk off d (grow (wr.drewN nq) osq)) := S1.out.grown nq osq
    clear lZ1a lZ1b hcZ1 S1; generalize grow (wr.drewN nq) osq = w2 at S2 ⊢; clear nq osq eiZ1 ejZ1
    go_wp2
    go_roundg k
    case measure => omega
    case rel => exact ⟨h + 1, j, k, by first | rfl | go_num | simp, rfl, by omega, by omega, h3, Nat.le_refl _, by have := HH.out; omega, S2, by have e := HE.out; rw [srch_t c (by rw [← HH.out]; exact hlv) k, ← HH.out] at e; exact e⟩
   | false =>
    obtain ⟨iNZ2, hiNZ2⟩ : ∃ q, q = h := ⟨_, rfl⟩
    have eiZ2 : ((h : Int)).toNat = iNZ2 := by omega
    have piZ2 : (0 : Int) ≤ (h : Int) := by omega
    have biZ2 : (h : Int) < (sz : Int) := by omega
    have riZ2 : IntKind.i64.wrap ((h : Int)) = (h : Int) := by rw [IntKind.wrap_i64]; omega
    obtain ⟨jNZ2, hjNZ2⟩ : ∃ q, q = a := ⟨_, rfl⟩
    have ejZ2 : ((a : Int)).toNat = jNZ2 := by omega
    have pjZ2 : (0 : Int) ≤ (a : Int) := by omega
    have bjZ2 : (a : Int) < (sz : Int) := by omega
    have rjZ2 : IntKind.i64.wrap ((a : Int)) = (a : Int) := by rw [IntKind.wrap_i64]; omega
    obtain ⟨xZ2, hxZ2⟩ : ∃ x, x = d[h]! := ⟨_, rfl⟩
    obtain ⟨yZ2, hyZ2⟩ : ∃ x, x = d[a]! := ⟨_, rfl⟩
    have lZ2a := S1.out.cl R (by omega) (h) (by omega)
    have lZ2b := S1.out.cl R (by omega) (a) (by omega)
    rw [← hxZ2, ← hiNZ2] at lZ2a
    rw [← hyZ2, ← hjNZ2] at lZ2b
    have hcZ2 := S1.out.cmp HC.out (by omega) xZ2 yZ2
    have hvZ2 : ¬ cf xZ2 yZ2 < 0 := by rw [hxZ2, hyZ2]; exact of_decide_eq_false hlv
    have hdZ2 : decide (cf xZ2 yZ2 < 0) = false := decide_eq_false hvZ2
    clear hxZ2 hyZ2 hiNZ2 hjNZ2
    go_wp2_with fail
    go_quiet_grown (first | (go_at_fn g; refine Calls.grown_of (hcZ2 _ _)))
    have S2 : Aside (SW enc w0 blk off d (grow (wr.drewN nq) osq)) := S1.out.grown nq osq
    clear lZ2a lZ2b hcZ2 S1; generalize grow (wr.drewN nq) osq = w2 at S2 ⊢; clear nq osq eiZ2 ejZ2
    go_wp2
    go_roundg k
    case measure => omega
    case rel => exact ⟨i, h, k, rfl, rfl, h1, by omega, by omega, Nat.le_refl _, by have := HH.out; omega, S2, by have e := HE.out; rw [srch_f c (by rw [← HH.out]; exact hlv) k, ← HH.out] at e; exact e⟩
  ·
   obtain rfl : i = j := by omega
   have er : i = r := by have e := HE.out; rw [srch_done c] at e; exact e
   have S3 : Aside _ := S1.out
   clear S1
   have ri1 : IntKind.i64.wrap ((i : Int) - 1) = (i : Int) - 1 := by rw [IntKind.wrap_i64]; omega
   have cz : ¬ (i : Int) < (i : Int) := by omega
   go_wp2
   go_loopg [13] (b - a) (fun kx s1 wr => ∃ (k : Nat) (dk : Array α), s1 = .int .i64 k ∧ a ≤ k ∧ k + 1 ≤ i ∧ b - k ≤ kx ∧ dk.size = sz ∧ Aside (SW enc w0 blk off dk wr) ∧ Aside (dk = shl a (k - a) d))
   case atStart => exact ⟨a, d, rfl, Nat.le_refl _, by omega, Nat.le_refl _, hz, S3, by show _ = _; rw [Nat.sub_self]; rfl⟩
   case round =>
    clear S3
    obtain ⟨k, dk, rfl, h4, h5, h6, hds, S4, HD⟩ := hrel
    have rk : IntKind.i64.wrap ((k : Int) + 1) = (k : Int) + 1 := by rw [IntKind.wrap_i64]; omega
    by_cases q : k + 1 < i
    ·
     have qz : (k : Int) < (i : Int) - 1 := by omega
     go_wp2_with fail
     obtain ⟨iNZ3, hiNZ3⟩ : ∃ q, q = k := ⟨_, rfl⟩
     have eiZ3 : ((k : Int)).toNat = iNZ3 := by omega
     have piZ3 : (0 : Int) ≤ (k : Int) := by omega
     have biZ3 : (k : Int) < (sz : Int) := by omega
     have riZ3 : IntKind.i64.wrap ((k : Int)) = (k : Int) := by rw [IntKind.wrap_i64]; omega
     obtain ⟨jNZ3, hjNZ3⟩ : ∃ q, q = k + 1 := ⟨_, rfl⟩
     have ejZ3 : ((k : Int) + 1).toNat = jNZ3 := by omega
     have pjZ3 : (0 : Int) ≤ (k : Int) + 1 := by omega
     have bjZ3 : (k : Int) + 1 < (sz : Int) := by omega
     have rjZ3 : IntKind.i64.wrap ((k : Int) + 1) = (k : Int) + 1 := by rw [IntKind.wrap_i64]; omega
     obtain ⟨xZ3, hxZ3⟩ : ∃ x, x = dk[k]! := ⟨_, rfl⟩
     obtain ⟨yZ3, hyZ3⟩ : ∃ x, x = dk[k + 1]! := ⟨_, rfl⟩
     have S2 : Aside (SW enc w0 blk off (swp dk (k) (k + 1)) ((wr.setCell ⟨blk, off + iNZ3, none⟩ (enc yZ3)).setCell ⟨blk, off + jNZ3, none⟩ (enc xZ3)).drew) := by rw [hiNZ3, hjNZ3, hxZ3, hyZ3]; exact S4.out.swapped R (k) (k + 1) (by omega) (by omega)
     have cZ3a := S4.out.c1 R (by omega) (k) (by omega)
     have cZ3b := S4.out.c1 R (by omega) (k + 1) (by omega)
     have fZ3a := S4.out.f1 R (by omega) (k) (by omega)
     have fZ3b := S4.out.f1 R (by omega) (k + 1) (by omega)
     obtain ⟨uZ3, cZ3c⟩ := S4.out.c2 R (by omega) (k) (k + 1) (by omega) (by omega) (enc yZ3)
     (first | rw [← hjNZ3, ← hiNZ3] at cZ3c | rw [← hiNZ3, ← hjNZ3] at cZ3c)
     rw [← hxZ3, ← hiNZ3] at cZ3a
     rw [← hyZ3, ← hjNZ3] at cZ3b
     rw [← hiNZ3] at fZ3a
     rw [← hjNZ3] at fZ3b
     clear S4 hxZ3 hyZ3 hiNZ3 hjNZ3
     go_wp2_with fail
     go_big_region_o
     clear cZ3a cZ3b cZ3c fZ3a fZ3b; generalize ((wr.setCell ⟨blk, off + iNZ3, none⟩ (enc yZ3)).setCell ⟨blk, off + jNZ3, none⟩ (enc xZ3)).drew = w2 at S2 ⊢; clear eiZ3 ejZ3
     go_wp2
     go_roundg (b - (k + 1))
     case measure => omega
     case rel => exact ⟨k + 1, swp dk k (k + 1), by first | rfl | go_num | simp, by omega, by omega, Nat.le_refl _, by rw [size_swp]; exact hds, S2, by show _ = _; rw [HD.out, show k + 1 - a = k - a + 1 by omega, shl, show a + (k - a) = k by omega]⟩
    ·
     have qz : ¬ (k : Int) < (i : Int) - 1 := by omega
     go_wp2
     refine bodyPost_ret (results_none rfl _ _ _) rfl ?_
     refine ⟨rfl, ?_⟩
     rw [HU.out, ← er, show i - 1 - a = k - a by omega, ← HD.out]
     exact S4.out
set_option maxHeartbeats 8000000 in
set_option maxRecDepth 1000000 in
theorem symM89_two (enc : α → Value) (cf : α → α → Int) (g : Nat) (cb : Array Value) (blk off cap sz : Nat) (d0 : Array α) (w0 : World)
  (eg : ∀ args w, (callFunc g args).run Try.prog w = .ok (.enter g args) w) (hcmp : CmpLays1 Try.prog g cb enc cf blk off d0.size w0) (R : Row1 enc w0 blk off d0) (hs : d0.size = sz) (hsz : sz < 1000000)
  (f a m b : Nat) (d : Array α) (w : World) (hz : d.size = sz) (S : SW enc w0 blk off d w) (ham : a < m) (hmb : m < b) (hb : b ≤ sz) (c1 : ¬ m - a = 1) (c2 : b - m = 1) :
  Calls Try.prog 89 #[.slice (some ⟨blk, off, none⟩) sz cap, .int .i64 a, .int .i64 m, .int .i64 b, .func (.func g) #[] cb] w fun e w' => e = .returned (.tuple #[]) ∧ SW enc w0 blk off (symM (ltOf cf) (f + 1) a m b d) w' := by
 have mixed : Try.prog.follows .mixedOrders = true := by kernel_rfl
 have t26 := Try.underlying26
 have a26 := Try.isAgg26
 have z26 := Try.sizeOf26
 have t3 := Try.underlying3
 have a3 := Try.isAgg3
 have z3 := Try.sizeOf3
 have hcl0 := R.hO.cells
 simp only [Value.cells] at hcl0
 have hst := R.hO.store Try.prog
 have S0 : Aside (SW enc w0 blk off d w) := S
 have HC : Aside _ := hcmp
 clear S hcmp
 obtain ⟨r, hr⟩ : ∃ r, srch (fun h => !(ltOf cf) d[m]! d[h]!) (b - a) a m = r := ⟨_, rfl⟩
 have hr2 : srch (fun h => !(ltOf cf) d[m]! d[h]!) (m - a) a m = r := by rw [← hr]; exact srch_fuel _ _ _ _ (Nat.le_refl _) (by omega)
 have HU : Aside (symM (ltOf cf) (f + 1) a m b d = shr m (m - r) d) := by show _ = _; rw [symM, if_neg c1, if_pos c2, hr2]
 obtain ⟨ma, hma⟩ : ∃ q, q = m - a := ⟨_, rfl⟩
 have r0 : IntKind.i64.wrap ((m : Int) - (a : Int)) = (ma : Int) := by rw [IntKind.wrap_i64]; omega
 have r1 : IntKind.i64.wrap ((b : Int) - (m : Int)) = 1 := by rw [IntKind.wrap_i64]; omega
 have n0 : ¬ ((ma : Int) = 1) := by omega
 have n0b : ((ma : Int) == 1) = false := beq_eq_false_iff_ne.mpr n0
 have HM : Aside _ := hma
 have HR : Aside _ := hr
 clear hr hr2 hma
 go_enter Try.func89, Try.ntmps89
 go_wp2
 go_loopg [14, 15] (b - a) (fun kx s1 s2 wr => ∃ (i j k : Nat), s1 = .int .i64 i ∧ s2 = .int .i64 j ∧ a ≤ i ∧ i ≤ j ∧ j ≤ m ∧ k ≤ kx ∧ j - i ≤ k ∧ Aside (SW enc w0 blk off d wr) ∧ Aside (srch (fun h => !(ltOf cf) d[m]! d[h]!) k i j = r))
 case atStart => exact ⟨a, m, b - a, rfl, rfl, Nat.le_refl _, by omega, Nat.le_refl _, Nat.le_refl _, by omega, S0, HR.out⟩
 case round =>
  clear S0
  obtain ⟨i, j, k, rfl, rfl, h1, h2, h3, h4, h5, S1, HE⟩ := hrel
  by_cases c : i < j
  ·
   have cz : (i : Int) < (j : Int) := by omega
   have rs : IntKind.i64.wrap ((i : Int) + (j : Int)) = (i : Int) + (j : Int) := by rw [IntKind.wrap_i64]; omega
   obtain ⟨h, hh⟩ : ∃ h, h = (i + j) / 2 := ⟨_, rfl⟩
   have eh : ((i : Int) + (j : Int)) / 2 = (h : Int) := by omega
   have hb1 : i ≤ h := by omega
   have hb2 : h < j := by omega
   have rh : IntKind.i64.wrap ((h : Int) + 1) = (h : Int) + 1 := by rw [IntKind.wrap_i64]; omega
   have HH : Aside _ := hh
   clear hh
   obtain ⟨k, rfl⟩ : ∃ k', k = k' + 1 := ⟨k - 1, by omega⟩
   cases hlv : (ltOf cf) d[m]! d[h]! with
   | true =>
    obtain ⟨iNZ4, hiNZ4⟩ : ∃ q, q = m := ⟨_, rfl⟩
    have eiZ4 : ((m : Int)).toNat = iNZ4 := by omega
    have piZ4 : (0 : Int) ≤ (m : Int) := by omega
    have biZ4 : (m : Int) < (sz : Int) := by omega
    have riZ4 : IntKind.i64.wrap ((m : Int)) = (m : Int) := by rw [IntKind.wrap_i64]; omega
    obtain ⟨jNZ4, hjNZ4⟩ : ∃ q, q = h := ⟨_, rfl⟩
    have ejZ4 : ((h : Int)).toNat = jNZ4 := by omega
    have pjZ4 : (0 : Int) ≤ (h : Int) := by omega
    have bjZ4 : (h : Int) < (sz : Int) := by omega
    have rjZ4 : IntKind.i64.wrap ((h : Int)) = (h : Int) := by rw [IntKind.wrap_i64]; omega
    obtain ⟨xZ4, hxZ4⟩ : ∃ x, x = d[m]! := ⟨_, rfl⟩
    obtain ⟨yZ4, hyZ4⟩ : ∃ x, x = d[h]! := ⟨_, rfl⟩
    have lZ4a := S1.out.cl R (by omega) (m) (by omega)
    have lZ4b := S1.out.cl R (by omega) (h) (by omega)
    rw [← hxZ4, ← hiNZ4] at lZ4a
    rw [← hyZ4, ← hjNZ4] at lZ4b
    have hcZ4 := S1.out.cmp HC.out (by omega) xZ4 yZ4
    have hvZ4 : cf xZ4 yZ4 < 0 := by rw [hxZ4, hyZ4]; exact of_decide_eq_true hlv
    have hdZ4 : decide (cf xZ4 yZ4 < 0) = true := decide_eq_true hvZ4
    clear hxZ4 hyZ4 hiNZ4 hjNZ4
    go_wp2_with fail
    go_quiet_grown (first | (go_at_fn g; refine Calls.grown_of (hcZ4 _ _)))
    have S2 : Aside (SW enc w0 blk off d (grow (wr.drewN nq) osq)) := S1.out.grown nq osq
    clear lZ4a lZ4b hcZ4 S1; generalize grow (wr.drewN nq) osq = w2 at S2 ⊢; clear nq osq eiZ4 ejZ4
    go_wp2
    go_roundg k
    case measure => omega
    case rel => exact ⟨i, h, k, rfl, rfl, h1, by omega, by omega, Nat.le_refl _, by have := HH.out; omega, S2, by have e := HE.out; rw [srch_f c (by rw [← HH.out]; simp only [hlv]; rfl) k, ← HH.out] at e; exact e⟩
   | false =>
    obtain ⟨iNZ5, hiNZ5⟩ : ∃ q, q = m := ⟨_, rfl⟩
    have eiZ5 : ((m : Int)).toNat = iNZ5 := by omega
    have piZ5 : (0 : Int) ≤ (m : Int) := by omega
    have biZ5 : (m : Int) < (sz : Int) := by omega
    have riZ5 : IntKind.i64.wrap ((m : Int)) = (m : Int) := by rw [IntKind.wrap_i64]; omega
    obtain ⟨jNZ5, hjNZ5⟩ : ∃ q, q = h := ⟨_, rfl⟩
    have ejZ5 : ((h : Int)).toNat = jNZ5 := by omega
    have pjZ5 : (0 : Int) ≤ (h : Int) := by omega
    have bjZ5 : (h : Int) < (sz : Int) := by omega
    have rjZ5 : IntKind.i64.wrap ((h : Int)) = (h : Int) := by rw [IntKind.wrap_i64]; omega
    obtain ⟨xZ5, hxZ5⟩ : ∃ x, x = d[m]! := ⟨_, rfl⟩
    obtain ⟨yZ5, hyZ5⟩ : ∃ x, x = d[h]! := ⟨_, rfl⟩
    have lZ5a := S1.out.cl R (by omega) (m) (by omega)
    have lZ5b := S1.out.cl R (by omega) (h) (by omega)
    rw [← hxZ5, ← hiNZ5] at lZ5a
    rw [← hyZ5, ← hjNZ5] at lZ5b
    have hcZ5 := S1.out.cmp HC.out (by omega) xZ5 yZ5
    have hvZ5 : ¬ cf xZ5 yZ5 < 0 := by rw [hxZ5, hyZ5]; exact of_decide_eq_false hlv
    have hdZ5 : decide (cf xZ5 yZ5 < 0) = false := decide_eq_false hvZ5
    clear hxZ5 hyZ5 hiNZ5 hjNZ5
    go_wp2_with fail
    go_quiet_grown (first | (go_at_fn g; refine Calls.grown_of (hcZ5 _ _)))
    have S2 : Aside (SW enc w0 blk off d (grow (wr.drewN nq) osq)) := S1.out.grown nq osq
    clear lZ5a lZ5b hcZ5 S1; generalize grow (wr.drewN nq) osq = w2 at S2 ⊢; clear nq osq eiZ5 ejZ5
    go_wp2
    go_roundg k
    case measure => omega
    case rel => exact ⟨h + 1, j, k, by first | rfl | go_num | simp, rfl, by omega, by omega, h3, Nat.le_refl _, by have := HH.out; omega, S2, by have e := HE.out; rw [srch_t c (by rw [← HH.out]; simp only [hlv]; rfl) k, ← HH.out] at e; exact e⟩
  ·
   obtain rfl : i = j := by omega
   have er : i = r := by have e := HE.out; rw [srch_done c] at e; exact e
   have S3 : Aside _ := S1.out
   clear S1
   have cz : ¬ (i : Int) < (i : Int) := by omega
   go_wp2
   go_loopg [17] (b - a) (fun kx s1 wr => ∃ (k : Nat) (dk : Array α), s1 = .int .i64 k ∧ i ≤ k ∧ k ≤ m ∧ k - a ≤ kx ∧ dk.size = sz ∧ Aside (SW enc w0 blk off dk wr) ∧ Aside (dk = shr m (m - k) d))
   case atStart => exact ⟨m, d, rfl, h3, Nat.le_refl _, by omega, hz, S3, by show _ = _; rw [Nat.sub_self]; rfl⟩
   case round =>
    clear S3
    obtain ⟨k, dk, rfl, h4, h5, h6, hds, S4, HD⟩ := hrel
    by_cases q : i < k
    ·
     obtain ⟨kp, rfl⟩ : ∃ kp, k = kp + 1 := ⟨k - 1, by omega⟩
     have rk : IntKind.i64.wrap ((kp : Int) + 1 - 1) = (kp : Int) := by rw [IntKind.wrap_i64]; omega
     have qz : (i : Int) < ((kp + 1 : Nat) : Int) := by omega
     have qz2 : (i : Int) < (kp : Int) + 1 := by omega
     go_wp2_with fail
     obtain ⟨iNZ6, hiNZ6⟩ : ∃ q, q = kp + 1 := ⟨_, rfl⟩
     have eiZ6 : ((kp : Int) + 1).toNat = iNZ6 := by omega
     have piZ6 : (0 : Int) ≤ (kp : Int) + 1 := by omega
     have biZ6 : (kp : Int) + 1 < (sz : Int) := by omega
     have riZ6 : IntKind.i64.wrap ((kp : Int) + 1) = (kp : Int) + 1 := by rw [IntKind.wrap_i64]; omega
     obtain ⟨jNZ6, hjNZ6⟩ : ∃ q, q = kp := ⟨_, rfl⟩
     have ejZ6 : ((kp : Int)).toNat = jNZ6 := by omega
     have pjZ6 : (0 : Int) ≤ (kp : Int) := by omega
     have bjZ6 : (kp : Int) < (sz : Int) := by omega
     have rjZ6 : IntKind.i64.wrap ((kp : Int)) = (kp : Int) := by rw [IntKind.wrap_i64]; omega
     obtain ⟨xZ6, hxZ6⟩ : ∃ x, x = dk[kp + 1]! := ⟨_, rfl⟩
     obtain ⟨yZ6, hyZ6⟩ : ∃ x, x = dk[kp]! := ⟨_, rfl⟩
     have S2 : Aside (SW enc w0 blk off (swp dk (kp + 1) (kp)) ((wr.setCell ⟨blk, off + iNZ6, none⟩ (enc yZ6)).setCell ⟨blk, off + jNZ6, none⟩ (enc xZ6)).drew) := by rw [hiNZ6, hjNZ6, hxZ6, hyZ6]; exact S4.out.swapped R (kp + 1) (kp) (by omega) (by omega)
     have cZ6a := S4.out.c1 R (by omega) (kp + 1) (by omega)
     have cZ6b := S4.out.c1 R (by omega) (kp) (by omega)
     have fZ6a := S4.out.f1 R (by omega) (kp + 1) (by omega)
     have fZ6b := S4.out.f1 R (by omega) (kp) (by omega)
     obtain ⟨uZ6, cZ6c⟩ := S4.out.c2 R (by omega) (kp + 1) (kp) (by omega) (by omega) (enc yZ6)
     (first | rw [← hjNZ6, ← hiNZ6] at cZ6c | rw [← hiNZ6, ← hjNZ6] at cZ6c)
     rw [← hxZ6, ← hiNZ6] at cZ6a
     rw [← hyZ6, ← hjNZ6] at cZ6b
     rw [← hiNZ6] at fZ6a
     rw [← hjNZ6] at fZ6b
     clear S4 hxZ6 hyZ6 hiNZ6 hjNZ6
     go_wp2_with fail
     go_big_region_o
     clear cZ6a cZ6b cZ6c fZ6a fZ6b; generalize ((wr.setCell ⟨blk, off + iNZ6, none⟩ (enc yZ6)).setCell ⟨blk, off + jNZ6, none⟩ (enc xZ6)).drew = w2 at S2 ⊢; clear eiZ6 ejZ6
     go_wp2
     go_roundg (kp - a)
     case measure => omega
     case rel => exact ⟨kp, swp dk (kp + 1) kp, by first | rfl | go_num | simp, by omega, by omega, Nat.le_refl _, by rw [size_swp]; exact hds, S2, by show _ = _; rw [HD.out, show m - kp = m - (kp + 1) + 1 by omega, shr, show m - (m - (kp + 1)) = kp + 1 by omega, Nat.add_sub_cancel]⟩
    ·
     have qz : ¬ (i : Int) < (k : Int) := by omega
     go_wp2
     refine bodyPost_ret (results_none rfl _ _ _) rfl ?_
     refine ⟨rfl, ?_⟩
     rw [HU.out, ← er, show m - i = m - k by omega, ← HD.out]
     exact S4.out
end Go.Proofs.Ytegffliopblajaa.P
end
section
namespace Go.Proofs.Ytegffliopblajaa.P
open Go.Shelf Go.RowKit Go.Lib Go.Sort Go.Stb Go.Proofs
set_option linter.unusedVariables false
set_option linter.unusedSimpArgs false
variable {α : Type} [Inhabited α]
theorem symM_eq (lt : α → α → Bool) (f a m b : Nat) (d : Array α) {md st en : Nat} (c1 : ¬ m - a = 1) (c2 : ¬ b - m = 1) (h1 : md = (a + b) / 2) (h2 : st = symSt lt a m b d) (h3 : en = md + m - st) :
    symM lt (f + 1) a m b d = (if md < en ∧ en < b then symM lt f md en b (if a < st ∧ st < md then symM lt f a st md (symRot st m en d) else symRot st m en d) else (if a < st ∧ st < md then symM lt f a st md (symRot st m en d) else symRot st m en d)) := by
  subst h1 h2 h3
  rw [symM, if_neg c1, if_neg c2]
theorem symM_size (lt : α → α → Bool) : ∀ (f a m b : Nat) (d : Array α), (symM lt f a m b d).size = d.size
  | 0, _, _, _, _ => rfl
  | f + 1, a, m, b, d => by
    rw [symM]
    split
    · exact shl_size _ _ _
    · split
      · exact shr_size _ _ _
      · split
        · rw [symM_size lt f]
          split
          · rw [symM_size lt f, symRot_size]
          · exact symRot_size _ _ _ _
        · split
          · rw [symM_size lt f, symRot_size]
          · exact symRot_size _ _ _ _
set_option maxHeartbeats 8000000 in
set_option maxRecDepth 1000000 in
theorem symM89_main1 (enc : α → Value) (cf : α → α → Int) (g : Nat) (cb : Array Value) (blk off cap sz : Nat) (d0 : Array α) (w0 : World)
  (eg : ∀ args w, (callFunc g args).run Try.prog w = .ok (.enter g args) w) (hcmp : CmpLays1 Try.prog g cb enc cf blk off d0.size w0) (R : Row1 enc w0 blk off d0) (hs : d0.size = sz) (hsz : sz < 1000000)
  (f : Nat) (IH : ∀ (a m b : Nat) (d : Array α) (w : World), d.size = sz → SW enc w0 blk off d w → a < m → m < b → b ≤ sz → b - a ≤ f → Calls Try.prog 89 #[.slice (some ⟨blk, off, none⟩) sz cap, .int .i64 a, .int .i64 m, .int .i64 b, .func (.func g) #[] cb] w fun e w' => e = .returned (.tuple #[]) ∧ SW enc w0 blk off (symM (ltOf cf) f a m b d) w')
  (a m b : Nat) (d : Array α) (w : World) (hz : d.size = sz) (S : SW enc w0 blk off d w) (ham : a < m) (hmb : m < b) (hb : b ≤ sz) (hf : b - a ≤ f + 1) (c1 : ¬ m - a = 1) (c2 : ¬ b - m = 1) (cm : (a + b) / 2 < m) :
  Calls Try.prog 89 #[.slice (some ⟨blk, off, none⟩) sz cap, .int .i64 a, .int .i64 m, .int .i64 b, .func (.func g) #[] cb] w fun e w' => e = .returned (.tuple #[]) ∧ SW enc w0 blk off (symM (ltOf cf) (f + 1) a m b d) w' := by
 have mixed : Try.prog.follows .mixedOrders = true := by kernel_rfl
 have t26 := Try.underlying26
 have a26 := Try.isAgg26
 have z26 := Try.sizeOf26
 have t3 := Try.underlying3
 have a3 := Try.isAgg3
 have z3 := Try.sizeOf3
 have hcl0 := R.hO.cells
 simp only [Value.cells] at hcl0
 have hst := R.hO.store Try.prog
 have S0 : Aside (SW enc w0 blk off d w) := S
 have HC : Aside _ := hcmp
 clear S hcmp
 have IHA : Aside _ := IH
 clear IH
 obtain ⟨md, hmd⟩ : ∃ md, md = (a + b) / 2 := ⟨_, rfl⟩
 obtain ⟨nn, hnn⟩ : ∃ nn, nn = md + m := ⟨_, rfl⟩
 obtain ⟨pp, hpp⟩ : ∃ pp, pp = md + m - 1 := ⟨_, rfl⟩
 obtain ⟨ma, hma⟩ : ∃ q, q = m - a := ⟨_, rfl⟩
 obtain ⟨bm, hbm⟩ : ∃ q, q = b - m := ⟨_, rfl⟩
 rw [← hmd] at cm
 have r0 : IntKind.i64.wrap ((m : Int) - (a : Int)) = (ma : Int) := by rw [IntKind.wrap_i64]; omega
 have r1 : IntKind.i64.wrap ((b : Int) - (m : Int)) = (bm : Int) := by rw [IntKind.wrap_i64]; omega
 have n0 : ¬ ((ma : Int) = 1) := by omega
 have n0b : ((ma : Int) == 1) = false := beq_eq_false_iff_ne.mpr n0
 have n1 : ¬ ((bm : Int) = 1) := by omega
 have n1b : ((bm : Int) == 1) = false := beq_eq_false_iff_ne.mpr n1
 have r2 : IntKind.i64.wrap ((a : Int) + (b : Int)) = (a : Int) + (b : Int) := by rw [IntKind.wrap_i64]; omega
 have em : ((a : Int) + (b : Int)) / 2 = (md : Int) := by omega
 have r3 : IntKind.i64.wrap ((md : Int) + (m : Int)) = (nn : Int) := by rw [IntKind.wrap_i64]; omega
 have r4 : IntKind.i64.wrap ((nn : Int) - 1) = (pp : Int) := by rw [IntKind.wrap_i64]; omega
 have cmz : (md : Int) < (m : Int) := by omega
 obtain ⟨lo, hlo⟩ : ∃ lo, lo = nn - b := ⟨_, rfl⟩
 have r5 : IntKind.i64.wrap ((nn : Int) - (b : Int)) = (lo : Int) := by rw [IntKind.wrap_i64]; omega
 obtain ⟨r, hr0⟩ : ∃ r, r = symSt (ltOf cf) a m b d := ⟨_, rfl⟩
 have hr : srch (fun c => !(ltOf cf) d[pp - c]! d[c]!) (b - a) lo md = r := by
  rw [hr0]; unfold symSt; rw [if_pos (by omega), hlo, hnn, hpp, hmd]
 have HN : Aside _ := And.intro hmd (And.intro hnn (And.intro hpp (And.intro hma (And.intro hbm (And.intro hr0 hlo)))))
 have HR : Aside _ := hr
 clear hmd hnn hpp hma hbm hr0 hlo hr
 go_enter Try.func89, Try.ntmps89
 go_wp2
 go_loopg [20, 21] (b - a) (fun kx s1 s2 wr => ∃ (i j k : Nat), s1 = .int .i64 i ∧ s2 = .int .i64 j ∧ lo ≤ i ∧ i ≤ j ∧ j ≤ md ∧ k ≤ kx ∧ j - i ≤ k ∧ Aside (SW enc w0 blk off d wr) ∧ Aside (srch (fun c => !(ltOf cf) d[pp - c]! d[c]!) k i j = r))
 case atStart => exact ⟨lo, md, b - a, rfl, rfl, Nat.le_refl _, by have := HN.out; omega, Nat.le_refl _, Nat.le_refl _, by have := HN.out; omega, S0, HR.out⟩
 case round =>
  clear S0
  obtain ⟨i, j, k, rfl, rfl, h1, h2, h3, h4, h5, S1, HE⟩ := hrel
  by_cases c : i < j
  ·
   have cz : (i : Int) < (j : Int) := by omega
   have rs : IntKind.i64.wrap ((i : Int) + (j : Int)) = (i : Int) + (j : Int) := by rw [IntKind.wrap_i64]; have := HN.out; omega
   obtain ⟨h, hh⟩ : ∃ h, h = (i + j) / 2 := ⟨_, rfl⟩
   have eh : ((i : Int) + (j : Int)) / 2 = (h : Int) := by omega
   have hb1 : i ≤ h := by omega
   have hb2 : h < j := by omega
   have rh : IntKind.i64.wrap ((h : Int) + 1) = (h : Int) + 1 := by rw [IntKind.wrap_i64]; have := HN.out; omega
   obtain ⟨ph, hph⟩ : ∃ ph, ph = pp - h := ⟨_, rfl⟩
   have rph : IntKind.i64.wrap ((pp : Int) - (h : Int)) = (ph : Int) := by rw [IntKind.wrap_i64]; have := HN.out; omega
   have hb3 : ph < sz := by have := HN.out; omega
   have hb4 : h < sz := by have := HN.out; omega
   have HPH : Aside _ := hph
   clear hph
   have HH : Aside _ := hh
   clear hh
   obtain ⟨k, rfl⟩ : ∃ k', k = k' + 1 := ⟨k - 1, by omega⟩
   cases hlv : (ltOf cf) d[ph]! d[h]! with
   | true =>
    obtain ⟨iNZ1, hiNZ1⟩ : ∃ q, q = ph := ⟨_, rfl⟩
    have eiZ1 : ((ph : Int)).toNat = iNZ1 := by omega
    have piZ1 : (0 : Int) ≤ (ph : Int) := by omega
    have biZ1 : (ph : Int) < (sz : Int) := by omega
    have riZ1 : IntKind.i64.wrap ((ph : Int)) = (ph : Int) := by rw [IntKind.wrap_i64]; omega
    obtain ⟨jNZ1, hjNZ1⟩ : ∃ q, q = h := ⟨_, rfl⟩
    have ejZ1 : ((h : Int)).toNat = jNZ1 := by omega
    have pjZ1 : (0 : Int) ≤ (h : Int) := by omega
    have bjZ1 : (h : Int) < (sz : Int) := by omega
    have rjZ1 : IntKind.i64.wrap ((h : Int)) = (h : Int) := by rw [IntKind.wrap_i64]; omega
    obtain ⟨xZ1, hxZ1⟩ : ∃ x, x = d[ph]! := ⟨_, rfl⟩
    obtain ⟨yZ1, hyZ1⟩ : ∃ x, x = d[h]! := ⟨_, rfl⟩
    have lZ1a := S1.out.cl R (by omega) (ph) (by omega)
    have lZ1b := S1.out.cl R (by omega) (h) (by omega)
    rw [← hxZ1, ← hiNZ1] at lZ1a
    rw [← hyZ1, ← hjNZ1] at lZ1b
    have hcZ1 := S1.out.cmp HC.out (by omega) xZ1 yZ1
    have hvZ1 : cf xZ1 yZ1 < 0 := by rw [hxZ1, hyZ1]; exact of_decide_eq_true hlv
    have hdZ1 : decide (cf xZ1 yZ1 < 0) = true := decide_eq_true hvZ1
    clear hxZ1 hyZ1 hiNZ1 hjNZ1
    go_wp2_with fail
    go_quiet_grown (first | (go_at_fn g; refine Calls.grown_of (hcZ1 _ _)))
    have S2 : Aside (SW enc w0 blk off d (grow (wr.drewN nq) osq)) := S1.out.grown nq osq
    clear lZ1a lZ1b hcZ1 S1; generalize grow (wr.drewN nq) osq = w2 at S2 ⊢; clear nq osq eiZ1 ejZ1
    go_wp2
    go_roundg k
    case measure => omega
    case rel => exact ⟨i, h, k, rfl, rfl, h1, by omega, by omega, Nat.le_refl _, by have := HH.out; omega, S2, by have e := HE.out; rw [srch_f c (by rw [← HH.out]; show (!(ltOf cf) d[pp - h]! d[h]!) = _; rw [← HPH.out, hlv]; rfl) k, ← HH.out] at e; exact e⟩
   | false =>
    obtain ⟨iNZ2, hiNZ2⟩ : ∃ q, q = ph := ⟨_, rfl⟩
    have eiZ2 : ((ph : Int)).toNat = iNZ2 := by omega
    have piZ2 : (0 : Int) ≤ (ph : Int) := by omega
    have biZ2 : (ph : Int) < (sz : Int) := by omega
    have riZ2 : IntKind.i64.wrap ((ph : Int)) = (ph : Int) := by rw [IntKind.wrap_i64]; omega
    obtain ⟨jNZ2, hjNZ2⟩ : ∃ q, q = h := ⟨_, rfl⟩
    have ejZ2 : ((h : Int)).toNat = jNZ2 := by omega
    have pjZ2 : (0 : Int) ≤ (h : Int) := by omega
    have bjZ2 : (h : Int) < (sz : Int) := by omega
    have rjZ2 : IntKind.i64.wrap ((h : Int)) = (h : Int) := by rw [IntKind.wrap_i64]; omega
    obtain ⟨xZ2, hxZ2⟩ : ∃ x, x = d[ph]! := ⟨_, rfl⟩
    obtain ⟨yZ2, hyZ2⟩ : ∃ x, x = d[h]! := ⟨_, rfl⟩
    have lZ2a := S1.out.cl R (by omega) (ph) (by omega)
    have lZ2b := S1.out.cl R (by omega) (h) (by omega)
    rw [← hxZ2, ← hiNZ2] at lZ2a
    rw [← hyZ2, ← hjNZ2] at lZ2b
    have hcZ2 := S1.out.cmp HC.out (by omega) xZ2 yZ2
    have hvZ2 : ¬ cf xZ2 yZ2 < 0 := by rw [hxZ2, hyZ2]; exact of_decide_eq_false hlv
    have hdZ2 : decide (cf xZ2 yZ2 < 0) = false := decide_eq_false hvZ2
    clear hxZ2 hyZ2 hiNZ2 hjNZ2
    go_wp2_with fail
    go_quiet_grown (first | (go_at_fn g; refine Calls.grown_of (hcZ2 _ _)))
    have S2 : Aside (SW enc w0 blk off d (grow (wr.drewN nq) osq)) := S1.out.grown nq osq
    clear lZ2a lZ2b hcZ2 S1; generalize grow (wr.drewN nq) osq = w2 at S2 ⊢; clear nq osq eiZ2 ejZ2
    go_wp2
    go_roundg k
    case measure => omega
    case rel => exact ⟨h + 1, j, k, by first | rfl | go_num | simp, rfl, by omega, by omega, h3, Nat.le_refl _, by have := HH.out; omega, S2, by have e := HE.out; rw [srch_t c (by rw [← HH.out]; show (!(ltOf cf) d[pp - h]! d[h]!) = _; rw [← HPH.out, hlv]; rfl) k, ← HH.out] at e; exact e⟩
  ·
   obtain rfl : i = j := by omega
   have er : i = r := by have e := HE.out; rw [srch_done c] at e; exact e
   have S3 : Aside _ := S1.out
   clear S1
   have cz : ¬ (i : Int) < (i : Int) := by omega
   obtain ⟨en, hen⟩ : ∃ en, en = nn - i := ⟨_, rfl⟩
   have ren : IntKind.i64.wrap ((nn : Int) - (i : Int)) = (en : Int) := by rw [IntKind.wrap_i64]; have := HN.out; omega
   have HU : Aside _ := symM_eq (ltOf cf) f a m b d (md := md) (st := i) (en := en) c1 c2 HN.out.1 (by rw [er]; exact HN.out.2.2.2.2.2.1) (by rw [hen, HN.out.2.1])
   have hen2 : en ≤ b := by have := HN.out; omega
   have HEN : Aside _ := hen
   clear hen er
   by_cases q1 : i < m ∧ m < en
   ·
    have q1a : (i : Int) < (m : Int) := by omega
    have q1b : (m : Int) < (en : Int) := by omega
    go_wp2_with fail
    refine (rot95 enc g cb blk off cap sz i m en d0 d w0 _ R hs hz S3.out q1.1 q1.2 (by omega) (by omega)).mono ?_
    rintro e w2 ⟨rfl, S4⟩
    have HD : Aside (rot (en - i) (m - i) (en - m) m d = symRot i m en d) := by show _ = _; unfold symRot; rw [if_pos q1]
    rw [HD.out] at S4
    have S5 : Aside _ := S4
    clear S3 S4 HD
    by_cases q2 : a < i ∧ i < md
    ·
     have q2a : (a : Int) < (i : Int) := by omega
     have q2b : (i : Int) < (md : Int) := by omega
     go_wp2_with fail
     refine (IHA.out a i md (symRot i m en d) _ (by rw [symRot_size]; exact hz) S5.out q2.1 q2.2 (by have := HN.out; omega) (by have := HN.out; omega)).mono ?_
     rintro e w3 ⟨rfl, S6⟩
     have HD2 : Aside ((if a < i ∧ i < md then symM (ltOf cf) f a i md (symRot i m en d) else (symRot i m en d)) = symM (ltOf cf) f a i md (symRot i m en d)) := if_pos q2
     rw [← HD2.out] at S6
     have S7 : Aside _ := S6
     clear S5 S6 HD2
     by_cases q3 : md < en ∧ en < b
     ·
      have q3a : (md : Int) < (en : Int) := by omega
      have q3b : (en : Int) < (b : Int) := by omega
      go_wp2_with fail
      all_goals
       refine (IHA.out md en b _ _ (by split <;> simp only [symM_size, symRot_size] <;> exact hz) S7.out q3.1 q3.2 hb (by have := HN.out; omega)).mono ?_
       rintro e w4 ⟨rfl, S8⟩
       have S9 : Aside _ := S8
       clear S7 S8
       go_wp2
       go_end0
       exact ⟨rfl, by rw [HU.out, if_pos q3]; exact S9.out⟩
     ·
      by_cases q3a : md < en
      ·
       have q3c : (md : Int) < (en : Int) := by omega
       have q3b : ¬ (en : Int) < (b : Int) := by omega
       go_wp2
       all_goals
        go_end0
        exact ⟨rfl, by rw [HU.out, if_neg q3]; exact S7.out⟩
      ·
       have q3c : ¬ (md : Int) < (en : Int) := by omega
       go_wp2
       all_goals
        go_end0
        exact ⟨rfl, by rw [HU.out, if_neg q3]; exact S7.out⟩
    ·
     have HD2 : Aside ((if a < i ∧ i < md then symM (ltOf cf) f a i md (symRot i m en d) else (symRot i m en d)) = (symRot i m en d)) := if_neg q2
     have S6 := S5.out
     rw [← HD2.out] at S6
     have S7 : Aside _ := S6
     clear S5 S6 HD2
     by_cases q2a : a < i
     ·
      have q2c : (a : Int) < (i : Int) := by omega
      have q2b : ¬ (i : Int) < (md : Int) := by omega
      by_cases q3 : md < en ∧ en < b
      ·
       have q3a : (md : Int) < (en : Int) := by omega
       have q3b : (en : Int) < (b : Int) := by omega
       go_wp2_with fail
       all_goals
        refine (IHA.out md en b _ _ (by split <;> simp only [symM_size, symRot_size] <;> exact hz) S7.out q3.1 q3.2 hb (by have := HN.out; omega)).mono ?_
        rintro e w4 ⟨rfl, S8⟩
        have S9 : Aside _ := S8
        clear S7 S8
        go_wp2
        go_end0
        exact ⟨rfl, by rw [HU.out, if_pos q3]; exact S9.out⟩
      ·
       by_cases q3a : md < en
       ·
        have q3c : (md : Int) < (en : Int) := by omega
        have q3b : ¬ (en : Int) < (b : Int) := by omega
        go_wp2
        all_goals
         go_end0
         exact ⟨rfl, by rw [HU.out, if_neg q3]; exact S7.out⟩
       ·
        have q3c : ¬ (md : Int) < (en : Int) := by omega
        go_wp2
        all_goals
         go_end0
         exact ⟨rfl, by rw [HU.out, if_neg q3]; exact S7.out⟩
     ·
      have q2c : ¬ (a : Int) < (i : Int) := by omega
      by_cases q3 : md < en ∧ en < b
      ·
       have q3a : (md : Int) < (en : Int) := by omega
       have q3b : (en : Int) < (b : Int) := by omega
       go_wp2_with fail
       all_goals
        refine (IHA.out md en b _ _ (by split <;> simp only [symM_size, symRot_size] <;> exact hz) S7.out q3.1 q3.2 hb (by have := HN.out; omega)).mono ?_
        rintro e w4 ⟨rfl, S8⟩
        have S9 : Aside _ := S8
        clear S7 S8
        go_wp2
        go_end0
        exact ⟨rfl, by rw [HU.out, if_pos q3]; exact S9.out⟩
      ·
       by_cases q3a : md < en
       ·
        have q3c : (md : Int) < (en : Int) := by omega
        have q3b : ¬ (en : Int) < (b : Int) := by omega
        go_wp2
        all_goals
         go_end0
         exact ⟨rfl, by rw [HU.out, if_neg q3]; exact S7.out⟩
       ·
        have q3c : ¬ (md : Int) < (en : Int) := by omega
        go_wp2
        all_goals
         go_end0
         exact ⟨rfl, by rw [HU.out, if_neg q3]; exact S7.out⟩
   ·
    have HD : Aside (d = symRot i m en d) := by show _ = _; unfold symRot; rw [if_neg q1]
    have S4 := S3.out
    rw [HD.out] at S4
    have S5 : Aside _ := S4
    clear S3 S4
    by_cases q1a : i < m
    ·
     have q1c : (i : Int) < (m : Int) := by omega
     have q1b : ¬ (m : Int) < (en : Int) := by omega
     by_cases q2 : a < i ∧ i < md
     ·
      have q2a : (a : Int) < (i : Int) := by omega
      have q2b : (i : Int) < (md : Int) := by omega
      go_wp2_with fail
      refine (IHA.out a i md (symRot i m en d) _ (by rw [symRot_size]; exact hz) S5.out q2.1 q2.2 (by have := HN.out; omega) (by have := HN.out; omega)).mono ?_
      rintro e w3 ⟨rfl, S6⟩
      have HD2 : Aside ((if a < i ∧ i < md then symM (ltOf cf) f a i md (symRot i m en d) else (symRot i m en d)) = symM (ltOf cf) f a i md (symRot i m en d)) := if_pos q2
      rw [← HD2.out] at S6
      have S7 : Aside _ := S6
      clear S5 S6 HD2
      by_cases q3 : md < en ∧ en < b
      ·
       have q3a : (md : Int) < (en : Int) := by omega
       have q3b : (en : Int) < (b : Int) := by omega
       go_wp2_with fail
       all_goals
        refine (IHA.out md en b _ _ (by split <;> simp only [symM_size, symRot_size] <;> exact hz) S7.out q3.1 q3.2 hb (by have := HN.out; omega)).mono ?_
        rintro e w4 ⟨rfl, S8⟩
        have S9 : Aside _ := S8
        clear S7 S8
        go_wp2
        go_end0
        exact ⟨rfl, by rw [HU.out, if_pos q3]; exact S9.out⟩
      ·
       by_cases q3a : md < en
       ·
        have q3c : (md : Int) < (en : Int) := by omega
        have q3b : ¬ (en : Int) < (b : Int) := by omega
        go_wp2
        all_goals
         go_end0
         exact ⟨rfl, by rw [HU.out, if_neg q3]; exact S7.out⟩
       ·
        have q3c : ¬ (md : Int) < (en : Int) := by omega
        go_wp2
        all_goals
         go_end0
         exact ⟨rfl, by rw [HU.out, if_neg q3]; exact S7.out⟩
     ·
      have HD2 : Aside ((if a < i ∧ i < md then symM (ltOf cf) f a i md (symRot i m en d) else (symRot i m en d)) = (symRot i m en d)) := if_neg q2
      have S6 := S5.out
      rw [← HD2.out] at S6
      have S7 : Aside _ := S6
      clear S5 S6 HD2
      by_cases q2a : a < i
      ·
       have q2c : (a : Int) < (i : Int) := by omega
       have q2b : ¬ (i : Int) < (md : Int) := by omega
       by_cases q3 : md < en ∧ en < b
       ·
        have q3a : (md : Int) < (en : Int) := by omega
        have q3b : (en : Int) < (b : Int) := by omega
        go_wp2_with fail
        all_goals
         refine (IHA.out md en b _ _ (by split <;> simp only [symM_size, symRot_size] <;> exact hz) S7.out q3.1 q3.2 hb (by have := HN.out; omega)).mono ?_
         rintro e w4 ⟨rfl, S8⟩
         have S9 : Aside _ := S8
         clear S7 S8
         go_wp2
         go_end0
         exact ⟨rfl, by rw [HU.out, if_pos q3]; exact S9.out⟩
       ·
        by_cases q3a : md < en
        ·
         have q3c : (md : Int) < (en : Int) := by omega
         have q3b : ¬ (en : Int) < (b : Int) := by omega
         go_wp2
         all_goals
          go_end0
          exact ⟨rfl, by rw [HU.out, if_neg q3]; exact S7.out⟩
        ·
         have q3c : ¬ (md : Int) < (en : Int) := by omega
         go_wp2
         all_goals
          go_end0
          exact ⟨rfl, by rw [HU.out, if_neg q3]; exact S7.out⟩
      ·
       have q2c : ¬ (a : Int) < (i : Int) := by omega
       by_cases q3 : md < en ∧ en < b
       ·
        have q3a : (md : Int) < (en : Int) := by omega
        have q3b : (en : Int) < (b : Int) := by omega
        go_wp2_with fail
        all_goals
         refine (IHA.out md en b _ _ (by split <;> simp only [symM_size, symRot_size] <;> exact hz) S7.out q3.1 q3.2 hb (by have := HN.out; omega)).mono ?_
         rintro e w4 ⟨rfl, S8⟩
         have S9 : Aside _ := S8
         clear S7 S8
         go_wp2
         go_end0
         exact ⟨rfl, by rw [HU.out, if_pos q3]; exact S9.out⟩
       ·
        by_cases q3a : md < en
        ·
         have q3c : (md : Int) < (en : Int) := by omega
         have q3b : ¬ (en : Int) < (b : Int) := by omega
         go_wp2
         all_goals
          go_end0
          exact ⟨rfl, by rw [HU.out, if_neg q3]; exact S7.out⟩
        ·
         have q3c : ¬ (md : Int) < (en : Int) := by omega
         go_wp2
         all_goals
          go_end0
          exact ⟨rfl, by rw [HU.out, if_neg q3]; exact S7.out⟩
    ·
     have q1c : ¬ (i : Int) < (m : Int) := by omega
     by_cases q2 : a < i ∧ i < md
     ·
      have q2a : (a : Int) < (i : Int) := by omega
      have q2b : (i : Int) < (md : Int) := by omega
      go_wp2_with fail
      refine (IHA.out a i md (symRot i m en d) _ (by rw [symRot_size]; exact hz) S5.out q2.1 q2.2 (by have := HN.out; omega) (by have := HN.out; omega)).mono ?_
      rintro e w3 ⟨rfl, S6⟩
      have HD2 : Aside ((if a < i ∧ i < md then symM (ltOf cf) f a i md (symRot i m en d) else (symRot i m en d)) = symM (ltOf cf) f a i md (symRot i m en d)) := if_pos q2
      rw [← HD2.out] at S6
      have S7 : Aside _ := S6
      clear S5 S6 HD2
      by_cases q3 : md < en ∧ en < b
      ·
       have q3a : (md : Int) < (en : Int) := by omega
       have q3b : (en : Int) < (b : Int) := by omega
       go_wp2_with fail
       all_goals
        refine (IHA.out md en b _ _ (by split <;> simp only [symM_size, symRot_size] <;> exact hz) S7.out q3.1 q3.2 hb (by have := HN.out; omega)).mono ?_
        rintro e w4 ⟨rfl, S8⟩
        have S9 : Aside _ := S8
        clear S7 S8
        go_wp2
        go_end0
        exact ⟨rfl, by rw [HU.out, if_pos q3]; exact S9.out⟩
      ·
       by_cases q3a : md < en
       ·
        have q3c : (md : Int) < (en : Int) := by omega
        have q3b : ¬ (en : Int) < (b : Int) := by omega
        go_wp2
        all_goals
         go_end0
         exact ⟨rfl, by rw [HU.out, if_neg q3]; exact S7.out⟩
       ·
        have q3c : ¬ (md : Int) < (en : Int) := by omega
        go_wp2
        all_goals
         go_end0
         exact ⟨rfl, by rw [HU.out, if_neg q3]; exact S7.out⟩
     ·
      have HD2 : Aside ((if a < i ∧ i < md then symM (ltOf cf) f a i md (symRot i m en d) else (symRot i m en d)) = (symRot i m en d)) := if_neg q2
      have S6 := S5.out
      rw [← HD2.out] at S6
      have S7 : Aside _ := S6
      clear S5 S6 HD2
      by_cases q2a : a < i
      ·
       have q2c : (a : Int) < (i : Int) := by omega
       have q2b : ¬ (i : Int) < (md : Int) := by omega
       by_cases q3 : md < en ∧ en < b
       ·
        have q3a : (md : Int) < (en : Int) := by omega
        have q3b : (en : Int) < (b : Int) := by omega
        go_wp2_with fail
        all_goals
         refine (IHA.out md en b _ _ (by split <;> simp only [symM_size, symRot_size] <;> exact hz) S7.out q3.1 q3.2 hb (by have := HN.out; omega)).mono ?_
         rintro e w4 ⟨rfl, S8⟩
         have S9 : Aside _ := S8
         clear S7 S8
         go_wp2
         go_end0
         exact ⟨rfl, by rw [HU.out, if_pos q3]; exact S9.out⟩
       ·
        by_cases q3a : md < en
        ·
         have q3c : (md : Int) < (en : Int) := by omega
         have q3b : ¬ (en : Int) < (b : Int) := by omega
         go_wp2
         all_goals
          go_end0
          exact ⟨rfl, by rw [HU.out, if_neg q3]; exact S7.out⟩
        ·
         have q3c : ¬ (md : Int) < (en : Int) := by omega
         go_wp2
         all_goals
          go_end0
          exact ⟨rfl, by rw [HU.out, if_neg q3]; exact S7.out⟩
      ·
       have q2c : ¬ (a : Int) < (i : Int) := by omega
       by_cases q3 : md < en ∧ en < b
       ·
        have q3a : (md : Int) < (en : Int) := by omega
        have q3b : (en : Int) < (b : Int) := by omega
        go_wp2_with fail
        all_goals
         refine (IHA.out md en b _ _ (by split <;> simp only [symM_size, symRot_size] <;> exact hz) S7.out q3.1 q3.2 hb (by have := HN.out; omega)).mono ?_
         rintro e w4 ⟨rfl, S8⟩
         have S9 : Aside _ := S8
         clear S7 S8
         go_wp2
         go_end0
         exact ⟨rfl, by rw [HU.out, if_pos q3]; exact S9.out⟩
       ·
        by_cases q3a : md < en
        ·
         have q3c : (md : Int) < (en : Int) := by omega
         have q3b : ¬ (en : Int) < (b : Int) := by omega
         go_wp2
         all_goals
          go_end0
          exact ⟨rfl, by rw [HU.out, if_neg q3]; exact S7.out⟩
        ·
         have q3c : ¬ (md : Int) < (en : Int) := by omega
         go_wp2
         all_goals
          go_end0
          exact ⟨rfl, by rw [HU.out, if_neg q3]; exact S7.out⟩
set_option maxHeartbeats 8000000 in
set_option maxRecDepth 1000000 in
theorem symM89_main2 (enc : α → Value) (cf : α → α → Int) (g : Nat) (cb : Array Value) (blk off cap sz : Nat) (d0 : Array α) (w0 : World)
  (eg : ∀ args w, (callFunc g args).run Try.prog w = .ok (.enter g args) w) (hcmp : CmpLays1 Try.prog g cb enc cf blk off d0.size w0) (R : Row1 enc w0 blk off d0) (hs : d0.size = sz) (hsz : sz < 1000000)
  (f : Nat) (IH : ∀ (a m b : Nat) (d : Array α) (w : World), d.size = sz → SW enc w0 blk off d w → a < m → m < b → b ≤ sz → b - a ≤ f → Calls Try.prog 89 #[.slice (some ⟨blk, off, none⟩) sz cap, .int .i64 a, .int .i64 m, .int .i64 b, .func (.func g) #[] cb] w fun e w' => e = .returned (.tuple #[]) ∧ SW enc w0 blk off (symM (ltOf cf) f a m b d) w')
  (a m b : Nat) (d : Array α) (w : World) (hz : d.size = sz) (S : SW enc w0 blk off d w) (ham : a < m) (hmb : m < b) (hb : b ≤ sz) (hf : b - a ≤ f + 1) (c1 : ¬ m - a = 1) (c2 : ¬ b - m = 1) (cm : ¬ (a + b) / 2 < m) :
  Calls Try.prog 89 #[.slice (some ⟨blk, off, none⟩) sz cap, .int .i64 a, .int .i64 m, .int .i64 b, .func (.func g) #[] cb] w fun e w' => e = .returned (.tuple #[]) ∧ SW enc w0 blk off (symM (ltOf cf) (f + 1) a m b d) w' := by
 have mixed : Try.prog.follows .mixedOrders = true := by kernel_rfl
 have t26 := Try.underlying26
 have a26 := Try.isAgg26
 have z26 := Try.sizeOf26
 have t3 := Try.underlying3
 have a3 := Try.isAgg3
 have z3 := Try.sizeOf3
 have hcl0 := R.hO.cells
 simp only [Value.cells] at hcl0
 have hst := R.hO.store Try.prog
 have S0 : Aside (SW enc w0 blk off d w) := S
 have HC : Aside _ := hcmp
 clear S hcmp
 have IHA : Aside _ := IH
 clear IH
 obtain ⟨md, hmd⟩ : ∃ md, md = (a + b) / 2 := ⟨_, rfl⟩
 obtain ⟨nn, hnn⟩ : ∃ nn, nn = md + m := ⟨_, rfl⟩
 obtain ⟨pp, hpp⟩ : ∃ pp, pp = md + m - 1 := ⟨_, rfl⟩
 obtain ⟨ma, hma⟩ : ∃ q, q = m - a := ⟨_, rfl⟩
 obtain ⟨bm, hbm⟩ : ∃ q, q = b - m := ⟨_, rfl⟩
 rw [← hmd] at cm
 have r0 : IntKind.i64.wrap ((m : Int) - (a : Int)) = (ma : Int) := by rw [IntKind.wrap_i64]; omega
 have r1 : IntKind.i64.wrap ((b : Int) - (m : Int)) = (bm : Int) := by rw [IntKind.wrap_i64]; omega
 have n0 : ¬ ((ma : Int) = 1) := by omega
 have n0b : ((ma : Int) == 1) = false := beq_eq_false_iff_ne.mpr n0
 have n1 : ¬ ((bm : Int) = 1) := by omega
 have n1b : ((bm : Int) == 1) = false := beq_eq_false_iff_ne.mpr n1
 have r2 : IntKind.i64.wrap ((a : Int) + (b : Int)) = (a : Int) + (b : Int) := by rw [IntKind.wrap_i64]; omega
 have em : ((a : Int) + (b : Int)) / 2 = (md : Int) := by omega
 have r3 : IntKind.i64.wrap ((md : Int) + (m : Int)) = (nn : Int) := by rw [IntKind.wrap_i64]; omega
 have r4 : IntKind.i64.wrap ((nn : Int) - 1) = (pp : Int) := by rw [IntKind.wrap_i64]; omega
 have cmz : ¬ (md : Int) < (m : Int) := by omega
 obtain ⟨r, hr0⟩ : ∃ r, r = symSt (ltOf cf) a m b d := ⟨_, rfl⟩
 have hr : srch (fun c => !(ltOf cf) d[pp - c]! d[c]!) (b - a) a m = r := by
  rw [hr0]; unfold symSt; rw [if_neg (by omega), hpp, hmd]
 have HN : Aside _ := And.intro hmd (And.intro hnn (And.intro hpp (And.intro hma (And.intro hbm (And.intro hr0 trivial)))))
 have HR : Aside _ := hr
 clear hmd hnn hpp hma hbm hr0 hr
 go_enter Try.func89, Try.ntmps89
 go_wp2
 go_loopg [20, 21] (b - a) (fun kx s1 s2 wr => ∃ (i j k : Nat), s1 = .int .i64 i ∧ s2 = .int .i64 j ∧ a ≤ i ∧ i ≤ j ∧ j ≤ m ∧ k ≤ kx ∧ j - i ≤ k ∧ Aside (SW enc w0 blk off d wr) ∧ Aside (srch (fun c => !(ltOf cf) d[pp - c]! d[c]!) k i j = r))
 case atStart => exact ⟨a, m, b - a, rfl, rfl, Nat.le_refl _, by have := HN.out; omega, Nat.le_refl _, Nat.le_refl _, by have := HN.out; omega, S0, HR.out⟩
 case round =>
  clear S0
  obtain ⟨i, j, k, rfl, rfl, h1, h2, h3, h4, h5, S1, HE⟩ := hrel
  by_cases c : i < j
  ·
   have cz : (i : Int) < (j : Int) := by omega
   have rs : IntKind.i64.wrap ((i : Int) + (j : Int)) = (i : Int) + (j : Int) := by rw [IntKind.wrap_i64]; have := HN.out; omega
   obtain ⟨h, hh⟩ : ∃ h, h = (i + j) / 2 := ⟨_, rfl⟩
   have eh : ((i : Int) + (j : Int)) / 2 = (h : Int) := by omega
   have hb1 : i ≤ h := by omega
   have hb2 : h < j := by omega
   have rh : IntKind.i64.wrap ((h : Int) + 1) = (h : Int) + 1 := by rw [IntKind.wrap_i64]; have := HN.out; omega
   obtain ⟨ph, hph⟩ : ∃ ph, ph = pp - h := ⟨_, rfl⟩
   have rph : IntKind.i64.wrap ((pp : Int) - (h : Int)) = (ph : Int) := by rw [IntKind.wrap_i64]; have := HN.out; omega
   have hb3 : ph < sz := by have := HN.out; omega
   have hb4 : h < sz := by have := HN.out; omega
   have HPH : Aside _ := hph
   clear hph
   have HH : Aside _ := hh
   clear hh
   obtain ⟨k, rfl⟩ : ∃ k', k = k' + 1 := ⟨k - 1, by omega⟩
   cases hlv : (ltOf cf) d[ph]! d[h]! with
   | true =>
    obtain ⟨iNZ3, hiNZ3⟩ : ∃ q, q = ph := ⟨_, rfl⟩
    have eiZ3 : ((ph : Int)).toNat = iNZ3 := by omega
    have piZ3 : (0 : Int) ≤ (ph : Int) := by omega
    have biZ3 : (ph : Int) < (sz : Int) := by omega
    have riZ3 : IntKind.i64.wrap ((ph : Int)) = (ph : Int) := by rw [IntKind.wrap_i64]; omega
    obtain ⟨jNZ3, hjNZ3⟩ : ∃ q, q = h := ⟨_, rfl⟩
    have ejZ3 : ((h : Int)).toNat = jNZ3 := by omega
    have pjZ3 : (0 : Int) ≤ (h : Int) := by omega
    have bjZ3 : (h : Int) < (sz : Int) := by omega
    have rjZ3 : IntKind.i64.wrap ((h : Int)) = (h : Int) := by rw [IntKind.wrap_i64]; omega
    obtain ⟨xZ3, hxZ3⟩ : ∃ x, x = d[ph]! := ⟨_, rfl⟩
    obtain ⟨yZ3, hyZ3⟩ : ∃ x, x = d[h]! := ⟨_, rfl⟩
    have lZ3a := S1.out.cl R (by omega) (ph) (by omega)
    have lZ3b := S1.out.cl R (by omega) (h) (by omega)
    rw [← hxZ3, ← hiNZ3] at lZ3a
    rw [← hyZ3, ← hjNZ3] at lZ3b
    have hcZ3 := S1.out.cmp HC.out (by omega) xZ3 yZ3
    have hvZ3 : cf xZ3 yZ3 < 0 := by rw [hxZ3, hyZ3]; exact of_decide_eq_true hlv
    have hdZ3 : decide (cf xZ3 yZ3 < 0) = true := decide_eq_true hvZ3
    clear hxZ3 hyZ3 hiNZ3 hjNZ3
    go_wp2_with fail
    go_quiet_grown (first | (go_at_fn g; refine Calls.grown_of (hcZ3 _ _)))
    have S2 : Aside (SW enc w0 blk off d (grow (wr.drewN nq) osq)) := S1.out.grown nq osq
    clear lZ3a lZ3b hcZ3 S1; generalize grow (wr.drewN nq) osq = w2 at S2 ⊢; clear nq osq eiZ3 ejZ3
    go_wp2
    go_roundg k
    case measure => omega
    case rel => exact ⟨i, h, k, rfl, rfl, h1, by omega, by omega, Nat.le_refl _, by have := HH.out; omega, S2, by have e := HE.out; rw [srch_f c (by rw [← HH.out]; show (!(ltOf cf) d[pp - h]! d[h]!) = _; rw [← HPH.out, hlv]; rfl) k, ← HH.out] at e; exact e⟩
   | false =>
    obtain ⟨iNZ4, hiNZ4⟩ : ∃ q, q = ph := ⟨_, rfl⟩
    have eiZ4 : ((ph : Int)).toNat = iNZ4 := by omega
    have piZ4 : (0 : Int) ≤ (ph : Int) := by omega
    have biZ4 : (ph : Int) < (sz : Int) := by omega
    have riZ4 : IntKind.i64.wrap ((ph : Int)) = (ph : Int) := by rw [IntKind.wrap_i64]; omega
    obtain ⟨jNZ4, hjNZ4⟩ : ∃ q, q = h := ⟨_, rfl⟩
    have ejZ4 : ((h : Int)).toNat = jNZ4 := by omega
    have pjZ4 : (0 : Int) ≤ (h : Int) := by omega
    have bjZ4 : (h : Int) < (sz : Int) := by omega
    have rjZ4 : IntKind.i64.wrap ((h : Int)) = (h : Int) := by rw [IntKind.wrap_i64]; omega
    obtain ⟨xZ4, hxZ4⟩ : ∃ x, x = d[ph]! := ⟨_, rfl⟩
    obtain ⟨yZ4, hyZ4⟩ : ∃ x, x = d[h]! := ⟨_, rfl⟩
    have lZ4a := S1.out.cl R (by omega) (ph) (by omega)
    have lZ4b := S1.out.cl R (by omega) (h) (by omega)
    rw [← hxZ4, ← hiNZ4] at lZ4a
    rw [← hyZ4, ← hjNZ4] at lZ4b
    have hcZ4 := S1.out.cmp HC.out (by omega) xZ4 yZ4
    have hvZ4 : ¬ cf xZ4 yZ4 < 0 := by rw [hxZ4, hyZ4]; exact of_decide_eq_false hlv
    have hdZ4 : decide (cf xZ4 yZ4 < 0) = false := decide_eq_false hvZ4
    clear hxZ4 hyZ4 hiNZ4 hjNZ4
    go_wp2_with fail
    go_quiet_grown (first | (go_at_fn g; refine Calls.grown_of (hcZ4 _ _)))
    have S2 : Aside (SW enc w0 blk off d (grow (wr.drewN nq) osq)) := S1.out.grown nq osq
    clear lZ4a lZ4b hcZ4 S1; generalize grow (wr.drewN nq) osq = w2 at S2 ⊢; clear nq osq eiZ4 ejZ4
    go_wp2
    go_roundg k
    case measure => omega
    case rel => exact ⟨h + 1, j, k, by first | rfl | go_num | simp, rfl, by omega, by omega, h3, Nat.le_refl _, by have := HH.out; omega, S2, by have e := HE.out; rw [srch_t c (by rw [← HH.out]; show (!(ltOf cf) d[pp - h]! d[h]!) = _; rw [← HPH.out, hlv]; rfl) k, ← HH.out] at e; exact e⟩
  ·
   obtain rfl : i = j := by omega
   have er : i = r := by have e := HE.out; rw [srch_done c] at e; exact e
   have S3 : Aside _ := S1.out
   clear S1
   have cz : ¬ (i : Int) < (i : Int) := by omega
   obtain ⟨en, hen⟩ : ∃ en, en = nn - i := ⟨_, rfl⟩
   have ren : IntKind.i64.wrap ((nn : Int) - (i : Int)) = (en : Int) := by rw [IntKind.wrap_i64]; have := HN.out; omega
   have HU : Aside _ := symM_eq (ltOf cf) f a m b d (md := md) (st := i) (en := en) c1 c2 HN.out.1 (by rw [er]; exact HN.out.2.2.2.2.2.1) (by rw [hen, HN.out.2.1])
   have hen2 : en ≤ b := by have := HN.out; omega
   have HEN : Aside _ := hen
   clear hen er
   by_cases q1 : i < m ∧ m < en
   ·
    have q1a : (i : Int) < (m : Int) := by omega
    have q1b : (m : Int) < (en : Int) := by omega
    go_wp2_with fail
    refine (rot95 enc g cb blk off cap sz i m en d0 d w0 _ R hs hz S3.out q1.1 q1.2 (by omega) (by omega)).mono ?_
    rintro e w2 ⟨rfl, S4⟩
    have HD : Aside (rot (en - i) (m - i) (en - m) m d = symRot i m en d) := by show _ = _; unfold symRot; rw [if_pos q1]
    rw [HD.out] at S4
    have S5 : Aside _ := S4
    clear S3 S4 HD
    by_cases q2 : a < i ∧ i < md
    ·
     have q2a : (a : Int) < (i : Int) := by omega
     have q2b : (i : Int) < (md : Int) := by omega
     go_wp2_with fail
     refine (IHA.out a i md (symRot i m en d) _ (by rw [symRot_size]; exact hz) S5.out q2.1 q2.2 (by have := HN.out; omega) (by have := HN.out; omega)).mono ?_
     rintro e w3 ⟨rfl, S6⟩
     have HD2 : Aside ((if a < i ∧ i < md then symM (ltOf cf) f a i md (symRot i m en d) else (symRot i m en d)) = symM (ltOf cf) f a i md (symRot i m en d)) := if_pos q2
     rw [← HD2.out] at S6
     have S7 : Aside _ := S6
     clear S5 S6 HD2
     by_cases q3 : md < en ∧ en < b
     ·
      have q3a : (md : Int) < (en : Int) := by omega
      have q3b : (en : Int) < (b : Int) := by omega
      go_wp2_with fail
      all_goals
       refine (IHA.out md en b _ _ (by split <;> simp only [symM_size, symRot_size] <;> exact hz) S7.out q3.1 q3.2 hb (by have := HN.out; omega)).mono ?_
       rintro e w4 ⟨rfl, S8⟩
       have S9 : Aside _ := S8
       clear S7 S8
       go_wp2
       go_end0
       exact ⟨rfl, by rw [HU.out, if_pos q3]; exact S9.out⟩
     ·
      by_cases q3a : md < en
      ·
       have q3c : (md : Int) < (en : Int) := by omega
       have q3b : ¬ (en : Int) < (b : Int) := by omega
       go_wp2
       all_goals
        go_end0
        exact ⟨rfl, by rw [HU.out, if_neg q3]; exact S7.out⟩
      ·
       have q3c : ¬ (md : Int) < (en : Int) := by omega
       go_wp2
       all_goals
        go_end0
        exact ⟨rfl, by rw [HU.out, if_neg q3]; exact S7.out⟩
    ·
     have HD2 : Aside ((if a < i ∧ i < md then symM (ltOf cf) f a i md (symRot i m en d) else (symRot i m en d)) = (symRot i m en d)) := if_neg q2
     have S6 := S5.out
     rw [← HD2.out] at S6
     have S7 : Aside _ := S6
     clear S5 S6 HD2
     by_cases q2a : a < i
     ·
      have q2c : (a : Int) < (i : Int) := by omega
      have q2b : ¬ (i : Int) < (md : Int) := by omega
      by_cases q3 : md < en ∧ en < b
      ·
       have q3a : (md : Int) < (en : Int) := by omega
       have q3b : (en : Int) < (b : Int) := by omega
       go_wp2_with fail
       all_goals
        refine (IHA.out md en b _ _ (by split <;> simp only [symM_size, symRot_size] <;> exact hz) S7.out q3.1 q3.2 hb (by have := HN.out; omega)).mono ?_
        rintro e w4 ⟨rfl, S8⟩
        have S9 : Aside _ := S8
        clear S7 S8
        go_wp2
        go_end0
        exact ⟨rfl, by rw [HU.out, if_pos q3]; exact S9.out⟩
      ·
       by_cases q3a : md < en
       ·
        have q3c : (md : Int) < (en : Int) := by omega
        have q3b : ¬ (en : Int) < (b : Int) := by omega
        go_wp2
        all_goals
         go_end0
         exact ⟨rfl, by rw [HU.out, if_neg q3]; exact S7.out⟩
       ·
        have q3c : ¬ (md : Int) < (en : Int) := by omega
        go_wp2
        all_goals
         go_end0
         exact ⟨rfl, by rw [HU.out, if_neg q3]; exact S7.out⟩
     ·
      have q2c : ¬ (a : Int) < (i : Int) := by omega
      by_cases q3 : md < en ∧ en < b
      ·
       have q3a : (md : Int) < (en : Int) := by omega
       have q3b : (en : Int) < (b : Int) := by omega
       go_wp2_with fail
       all_goals
        refine (IHA.out md en b _ _ (by split <;> simp only [symM_size, symRot_size] <;> exact hz) S7.out q3.1 q3.2 hb (by have := HN.out; omega)).mono ?_
        rintro e w4 ⟨rfl, S8⟩
        have S9 : Aside _ := S8
        clear S7 S8
        go_wp2
        go_end0
        exact ⟨rfl, by rw [HU.out, if_pos q3]; exact S9.out⟩
      ·
       by_cases q3a : md < en
       ·
        have q3c : (md : Int) < (en : Int) := by omega
        have q3b : ¬ (en : Int) < (b : Int) := by omega
        go_wp2
        all_goals
         go_end0
         exact ⟨rfl, by rw [HU.out, if_neg q3]; exact S7.out⟩
       ·
        have q3c : ¬ (md : Int) < (en : Int) := by omega
        go_wp2
        all_goals
         go_end0
         exact ⟨rfl, by rw [HU.out, if_neg q3]; exact S7.out⟩
   ·
    have HD : Aside (d = symRot i m en d) := by show _ = _; unfold symRot; rw [if_neg q1]
    have S4 := S3.out
    rw [HD.out] at S4
    have S5 : Aside _ := S4
    clear S3 S4
    by_cases q1a : i < m
    ·
     have q1c : (i : Int) < (m : Int) := by omega
     have q1b : ¬ (m : Int) < (en : Int) := by omega
     by_cases q2 : a < i ∧ i < md
     ·
      have q2a : (a : Int) < (i : Int) := by omega
      have q2b : (i : Int) < (md : Int) := by omega
      go_wp2_with fail
      refine (IHA.out a i md (symRot i m en d) _ (by rw [symRot_size]; exact hz) S5.out q2.1 q2.2 (by have := HN.out; omega) (by have := HN.out; omega)).mono ?_
      rintro e w3 ⟨rfl, S6⟩
      have HD2 : Aside ((if a < i ∧ i < md then symM (ltOf cf) f a i md (symRot i m en d) else (symRot i m en d)) = symM (ltOf cf) f a i md (symRot i m en d)) := if_pos q2
      rw [← HD2.out] at S6
      have S7 : Aside _ := S6
      clear S5 S6 HD2
      by_cases q3 : md < en ∧ en < b
      ·
       have q3a : (md : Int) < (en : Int) := by omega
       have q3b : (en : Int) < (b : Int) := by omega
       go_wp2_with fail
       all_goals
        refine (IHA.out md en b _ _ (by split <;> simp only [symM_size, symRot_size] <;> exact hz) S7.out q3.1 q3.2 hb (by have := HN.out; omega)).mono ?_
        rintro e w4 ⟨rfl, S8⟩
        have S9 : Aside _ := S8
        clear S7 S8
        go_wp2
        go_end0
        exact ⟨rfl, by rw [HU.out, if_pos q3]; exact S9.out⟩
      ·
       by_cases q3a : md < en
       ·
        have q3c : (md : Int) < (en : Int) := by omega
        have q3b : ¬ (en : Int) < (b : Int) := by omega
        go_wp2
        all_goals
         go_end0
         exact ⟨rfl, by rw [HU.out, if_neg q3]; exact S7.out⟩
       ·
        have q3c : ¬ (md : Int) < (en : Int) := by omega
        go_wp2
        all_goals
         go_end0
         exact ⟨rfl, by rw [HU.out, if_neg q3]; exact S7.out⟩
     ·
      have HD2 : Aside ((if a < i ∧ i < md then symM (ltOf cf) f a i md (symRot i m en d) else (symRot i m en d)) = (symRot i m en d)) := if_neg q2
      have S6 := S5.out
      rw [← HD2.out] at S6
      have S7 : Aside _ := S6
      clear S5 S6 HD2
      by_cases q2a : a < i
      ·
       have q2c : (a : Int) < (i : Int) := by omega
       have q2b : ¬ (i : Int) < (md : Int) := by omega
       by_cases q3 : md < en ∧ en < b
       ·
        have q3a : (md : Int) < (en : Int) := by omega
        have q3b : (en : Int) < (b : Int) := by omega
        go_wp2_with fail
        all_goals
         refine (IHA.out md en b _ _ (by split <;> simp only [symM_size, symRot_size] <;> exact hz) S7.out q3.1 q3.2 hb (by have := HN.out; omega)).mono ?_
         rintro e w4 ⟨rfl, S8⟩
         have S9 : Aside _ := S8
         clear S7 S8
         go_wp2
         go_end0
         exact ⟨rfl, by rw [HU.out, if_pos q3]; exact S9.out⟩
       ·
        by_cases q3a : md < en
        ·
         have q3c : (md : Int) < (en : Int) := by omega
         have q3b : ¬ (en : Int) < (b : Int) := by omega
         go_wp2
         all_goals
          go_end0
          exact ⟨rfl, by rw [HU.out, if_neg q3]; exact S7.out⟩
        ·
         have q3c : ¬ (md : Int) < (en : Int) := by omega
         go_wp2
         all_goals
          go_end0
          exact ⟨rfl, by rw [HU.out, if_neg q3]; exact S7.out⟩
      ·
       have q2c : ¬ (a : Int) < (i : Int) := by omega
       by_cases q3 : md < en ∧ en < b
       ·
        have q3a : (md : Int) < (en : Int) := by omega
        have q3b : (en : Int) < (b : Int) := by omega
        go_wp2_with fail
        all_goals
         refine (IHA.out md en b _ _ (by split <;> simp only [symM_size, symRot_size] <;> exact hz) S7.out q3.1 q3.2 hb (by have := HN.out; omega)).mono ?_
         rintro e w4 ⟨rfl, S8⟩
         have S9 : Aside _ := S8
         clear S7 S8
         go_wp2
         go_end0
         exact ⟨rfl, by rw [HU.out, if_pos q3]; exact S9.out⟩
       ·
        by_cases q3a : md < en
        ·
         have q3c : (md : Int) < (en : Int) := by omega
         have q3b : ¬ (en : Int) < (b : Int) := by omega
         go_wp2
         all_goals
          go_end0
          exact ⟨rfl, by rw [HU.out, if_neg q3]; exact S7.out⟩
        ·
         have q3c : ¬ (md : Int) < (en : Int) := by omega
         go_wp2
         all_goals
          go_end0
          exact ⟨rfl, by rw [HU.out, if_neg q3]; exact S7.out⟩
    ·
     have q1c : ¬ (i : Int) < (m : Int) := by omega
     by_cases q2 : a < i ∧ i < md
     ·
      have q2a : (a : Int) < (i : Int) := by omega
      have q2b : (i : Int) < (md : Int) := by omega
      go_wp2_with fail
      refine (IHA.out a i md (symRot i m en d) _ (by rw [symRot_size]; exact hz) S5.out q2.1 q2.2 (by have := HN.out; omega) (by have := HN.out; omega)).mono ?_
      rintro e w3 ⟨rfl, S6⟩
      have HD2 : Aside ((if a < i ∧ i < md then symM (ltOf cf) f a i md (symRot i m en d) else (symRot i m en d)) = symM (ltOf cf) f a i md (symRot i m en d)) := if_pos q2
      rw [← HD2.out] at S6
      have S7 : Aside _ := S6
      clear S5 S6 HD2
      by_cases q3 : md < en ∧ en < b
      ·
       have q3a : (md : Int) < (en : Int) := by omega
       have q3b : (en : Int) < (b : Int) := by omega
       go_wp2_with fail
       all_goals
        refine (IHA.out md en b _ _ (by split <;> simp only [symM_size, symRot_size] <;> exact hz) S7.out q3.1 q3.2 hb (by have := HN.out; omega)).mono ?_
        rintro e w4 ⟨rfl, S8⟩
        have S9 : Aside _ := S8
        clear S7 S8
        go_wp2
        go_end0
        exact ⟨rfl, by rw [HU.out, if_pos q3]; exact S9.out⟩
      ·
       by_cases q3a : md < en
       ·
        have q3c : (md : Int) < (en : Int) := by omega
        have q3b : ¬ (en : Int) < (b : Int) := by omega
        go_wp2
        all_goals
         go_end0
         exact ⟨rfl, by rw [HU.out, if_neg q3]; exact S7.out⟩
       ·
        have q3c : ¬ (md : Int) < (en : Int) := by omega
        go_wp2
        all_goals
         go_end0
         exact ⟨rfl, by rw [HU.out, if_neg q3]; exact S7.out⟩
     ·
      have HD2 : Aside ((if a < i ∧ i < md then symM (ltOf cf) f a i md (symRot i m en d) else (symRot i m en d)) = (symRot i m en d)) := if_neg q2
      have S6 := S5.out
      rw [← HD2.out] at S6
      have S7 : Aside _ := S6
      clear S5 S6 HD2
      by_cases q2a : a < i
      ·
       have q2c : (a : Int) < (i : Int) := by omega
       have q2b : ¬ (i : Int) < (md : Int) := by omega
       by_cases q3 : md < en ∧ en < b
       ·
        have q3a : (md : Int) < (en : Int) := by omega
        have q3b : (en : Int) < (b : Int) := by omega
        go_wp2_with fail
        all_goals
         refine (IHA.out md en b _ _ (by split <;> simp only [symM_size, symRot_size] <;> exact hz) S7.out q3.1 q3.2 hb (by have := HN.out; omega)).mono ?_
         rintro e w4 ⟨rfl, S8⟩
         have S9 : Aside _ := S8
         clear S7 S8
         go_wp2
         go_end0
         exact ⟨rfl, by rw [HU.out, if_pos q3]; exact S9.out⟩
       ·
        by_cases q3a : md < en
        ·
         have q3c : (md : Int) < (en : Int) := by omega
         have q3b : ¬ (en : Int) < (b : Int) := by omega
         go_wp2
         all_goals
          go_end0
          exact ⟨rfl, by rw [HU.out, if_neg q3]; exact S7.out⟩
        ·
         have q3c : ¬ (md : Int) < (en : Int) := by omega
         go_wp2
         all_goals
          go_end0
          exact ⟨rfl, by rw [HU.out, if_neg q3]; exact S7.out⟩
      ·
       have q2c : ¬ (a : Int) < (i : Int) := by omega
       by_cases q3 : md < en ∧ en < b
       ·
        have q3a : (md : Int) < (en : Int) := by omega
        have q3b : (en : Int) < (b : Int) := by omega
        go_wp2_with fail
        all_goals
         refine (IHA.out md en b _ _ (by split <;> simp only [symM_size, symRot_size] <;> exact hz) S7.out q3.1 q3.2 hb (by have := HN.out; omega)).mono ?_
         rintro e w4 ⟨rfl, S8⟩
         have S9 : Aside _ := S8
         clear S7 S8
         go_wp2
         go_end0
         exact ⟨rfl, by rw [HU.out, if_pos q3]; exact S9.out⟩
       ·
        by_cases q3a : md < en
        ·
         have q3c : (md : Int) < (en : Int) := by omega
         have q3b : ¬ (en : Int) < (b : Int) := by omega
         go_wp2
         all_goals
          go_end0
          exact ⟨rfl, by rw [HU.out, if_neg q3]; exact S7.out⟩
        ·
         have q3c : ¬ (md : Int) < (en : Int) := by omega
         go_wp2
         all_goals
          go_end0
          exact ⟨rfl, by rw [HU.out, if_neg q3]; exact S7.out⟩
set_option maxHeartbeats 1000000 in
set_option maxRecDepth 1000000 in
theorem symM89 (enc : α → Value) (cf : α → α → Int) (g : Nat) (cb : Array Value) (blk off cap sz : Nat) (d0 : Array α) (w0 : World)
    (eg : ∀ args w, (callFunc g args).run Try.prog w = .ok (.enter g args) w) (hcmp : CmpLays1 Try.prog g cb enc cf blk off d0.size w0) (R : Row1 enc w0 blk off d0) (hs : d0.size = sz) (hsz : sz < 1000000) : ∀ (f a m b : Nat) (d : Array α) (w : World), d.size = sz → SW enc w0 blk off d w → a < m → m < b → b ≤ sz → b - a ≤ f → Calls Try.prog 89 #[.slice (some ⟨blk, off, none⟩) sz cap, .int .i64 a, .int .i64 m, .int .i64 b, .func (.func g) #[] cb] w fun e w' => e = .returned (.tuple #[]) ∧ SW enc w0 blk off (symM (ltOf cf) f a m b d) w'
  | 0, a, m, b, d, w, hz, S, ham, hmb, hb, hf => by omega
  | f + 1, a, m, b, d, w, hz, S, ham, hmb, hb, hf => by
    by_cases c1 : m - a = 1
    · exact symM89_one enc cf g cb blk off cap sz d0 w0 eg hcmp R hs hsz f a m b d w hz S ham hmb hb c1
    · by_cases c2 : b - m = 1
      · exact symM89_two enc cf g cb blk off cap sz d0 w0 eg hcmp R hs hsz f a m b d w hz S ham hmb hb c1 c2
      · by_cases cm : (a + b) / 2 < m
        · exact symM89_main1 enc cf g cb blk off cap sz d0 w0 eg hcmp R hs hsz f (symM89 enc cf g cb blk off cap sz d0 w0 eg hcmp R hs hsz f) a m b d w hz S ham hmb hb hf c1 c2 cm
        · exact symM89_main2 enc cf g cb blk off cap sz d0 w0 eg hcmp R hs hsz f (symM89 enc cf g cb blk off cap sz d0 w0 eg hcmp R hs hsz f) a m b d w hz S ham hmb hb hf c1 c2 cm
end Go.Proofs.Ytegffliopblajaa.P
end
