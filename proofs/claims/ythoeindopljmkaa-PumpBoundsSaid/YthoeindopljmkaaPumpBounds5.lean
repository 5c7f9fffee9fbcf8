/- Words and contracts for a claim. -/
import Derived.Test.YthoeindopljmkaaPumpBounds4
import Derived.StillTailTactics
section
namespace Go.Proofs.Ythoeindopljmkaa.P
open Go.RowKit Go.Proofs.YthoeindopljmkaaW.PrintWords Go.Proofs.YthoeindopljmkaaW.PrintLast Go.Proofs.YthoeindopljmkaaW.PrintMore
set_option linter.unusedVariables false
set_option linter.unusedSimpArgs false
def isB (a b c : Int) : Bool := decide (b ≤ a) && decide (a ≤ c)
theorem is_c (a b c : Int) (w : World) : Calls Try.prog 61 #[.int .i64 a, .int .i64 b, .int .i64 c] w fun e w' => e = .returned (.bool (isB a b c)) ∧ Drawn0 w w' := by
  refine pianolaref04_is.calls a b c _ w ?_
  unfold pianolaref04_is.f isB
  by_cases h : a ≥ b
  · rw [if_pos h, decide_eq_true (show b ≤ a from h)]; rfl
  · rw [if_neg h, decide_eq_false (show ¬ b ≤ a from h)]; rfl
theorem quiet0 {P : Program} {f : FuncId} {args : Array Value} {w : World} {n : Nat} {v : Value}
    (h : Calls P f args (w.drewN n) fun e w' => e = .returned v ∧ Drawn0 (w.drewN n) w') : Calls P f args (w.drewN n) fun e w'' => e = .returned v ∧ ∃ m, w'' = w.drewN m :=
  Calls.quiet_of (h.mono fun _ _ ⟨h1, h2⟩ => ⟨h1, h2.out⟩)
def chosenL (l : List S90) : Option Int → Int → Int → List Int → Int × Int × Bool
  | _, t, a, [] => (t, a, true)
  | p, t, a, x :: r => if isB x 0 ((l.length : Int) - 1) = false then (0, 0, false) else if (match p with | some y => decide (x < y) | none => false) = true then (0, 0, false)
    else chosenL l (some x) (wrap64 (t + (rd_T90 l x).f0)) (wrap64 (a + (rd_T90 l x).f1)) r
def pianolaref04_Chosen.f (l : List S90) (xs : List Int) : Option (Int × Int × Bool) := if l.length ≤ 1000000 ∧ xs.length ≤ 1000000 then some (chosenL l none 0 0 xs) else none
def prevO (xs : List Int) (i : Int) : Option Int := if i = 0 then none else some (rd xs (i - 1))
theorem chosen_step {l : List S90} {xs : List Int} {t a i : Int} (h0 : 0 ≤ i) (h1 : i < xs.length) : chosenL l (prevO xs i) t a (xs.drop i.toNat) =
    if isB (rd xs i) 0 ((l.length : Int) - 1) = false then (0, 0, false) else if (match prevO xs i with | some y => decide (rd xs i < y) | none => false) = true then (0, 0, false)
    else chosenL l (prevO xs (i + 1)) (wrap64 (t + (rd_T90 l (rd xs i)).f0)) (wrap64 (a + (rd_T90 l (rd xs i)).f1)) (xs.drop (i + 1).toNat) := by
  have e : xs.drop i.toNat = rd xs i :: xs.drop (i + 1).toNat := by
    rw [show (i + 1).toNat = i.toNat + 1 by omega, List.drop_eq_getElem_cons (by omega)]
    congr 1
    unfold rd
    rw [List.getD_eq_getElem?_getD, List.getElem?_eq_getElem (by omega)]; rfl
  have e2 : prevO xs (i + 1) = some (rd xs i) := by unfold prevO; rw [if_neg (by omega), show i + 1 - 1 = i by omega]
  rw [e, e2]
  rfl
set_option maxHeartbeats 4000000 in
set_option maxRecDepth 100000 in
theorem pianolaref04_Chosen.calls (A0 : Option Addr) (c0 : Nat) (l0 : List (S90)) (A1 : Option Addr) (c1 : Nat) (l1 : List Int) (r1 : Int) (r2 : Int) (r3 : Bool) (w : World) (hr0 : Kd.C k90 w A0 l0.length l0) (hc0 : l0.length ≤ c0) (hr1 : Kd.C (Kd.int .i64) w A1 l1.length l1) (hc1 : l1.length ≤ c1) (h : pianolaref04_Chosen.f l0 l1 = some (r1, r2, r3)) :
  Calls Try.prog 25 #[.slice A0 l0.length c0, .slice A1 l1.length c1] w fun e w' => e = .returned (.tuple #[.int .i64 r1, .int .i64 r2, .bool r3]) ∧ Drawn0 w w' := by
 unfold pianolaref04_Chosen.f at h
 split at h
 case isFalse => cases h
 rename_i hb
 have H := Aside0.mk (Option.some.inj h)
 have HQ := Aside0.mk hb
 have HR0 := Aside0.mk hr0
 have HR1 := Aside0.mk hr1
 clear h hb hr0 hr1
 go_enter Try.func25, Try.ntmps25
 go_wp2
 go_loopg [7, 8, 9] l1.length (fun kq v7 v8 v9 w' => ∃ (i t a : Int), v9 = .int .i64 i ∧ v7 = .int .i64 t ∧ v8 = .int .i64 a ∧ Aside0 (0 ≤ i ∧ (kq : Int) = l1.length - i ∧ chosenL l0 (prevO l1 i) t a (l1.drop i.toNat) = (r1, r2, r3)) ∧ Aside0 (Drawn0 w w'))
 case atStart => exact ⟨0, 0, 0, rfl, rfl, rfl, ⟨by omega, by omega, H.out⟩, ⟨Drawn0.refl _⟩⟩
 case round =>
  obtain ⟨i, t, a, rfl, rfl, rfl, HI, HB⟩ := hrel
  by_cases c : i < (l1.length : Int)
  ·
   have i0 := HI.out.1
   obtain ⟨ad, e, h0⟩ := Kd.at_int HR1.out i i0 c
   cases e
   have cc : decide (i < (l1.length : Int)) = true := decide_eq_true c
   have HC := Aside0.mk (chosen_step (l := l0) (t := t) (a := a) i0 c)
   have hq := HQ.out.1
   have wl : wrap64 ((l0.length : Int) - 1) = (l0.length : Int) - 1 := by unfold wrap64; omega
   replace h0 : wr.cell? (ad.add i.toNat) = some (.int .i64 (rd l1 i)) := by obtain ⟨n, e⟩ := HB.out.out; rw [e]; simpa using h0
   have KC : ∀ (b : Bool), isB (rd l1 i) 0 ((l0.length : Int) - 1) = b → ∀ (W : World) (n : Nat), Calls Try.prog 61 #[.int .i64 (rd l1 i), .int .i64 0, .int .i64 (wrap64 ((l0.length : Int) - 1))] (W.drewN n) fun e w' => e = .returned (.bool b) ∧ ∃ m, w' = W.drewN m := by
    intro b hb W n
    rw [wl]
    exact quiet0 (by have := is_c (rd l1 i) 0 ((l0.length : Int) - 1) (W.drewN n); rw [hb] at this; exact this)
   have ci : 0 ≤ i := i0
   clear wl hq
   by_cases cb : isB (rd l1 i) 0 ((l0.length : Int) - 1) = false
   ·
    have KC' := Aside0.mk (KC _ cb)
    have hx := HC.out.symm.trans HI.out.2.2
    rw [if_pos cb] at hx
    simp only [Prod.mk.injEq] at hx
    obtain ⟨rfl, rfl, rfl⟩ := hx
    clear cb HC KC
    go_wp2_with fail
    go_quiet ((go_at_call 61; (try rw [i64_w]); with_reducible exact KC'.out _ _))
    go_wp2
    go_ret3
    exact ⟨rfl, HB.out.step _⟩
   have cb1 : isB (rd l1 i) 0 ((l0.length : Int) - 1) = true := by exact Bool.not_eq_false _ |>.mp cb
   have KC' := Aside0.mk (KC _ cb1)
   have hs : 0 ≤ rd l1 i ∧ rd l1 i < l0.length := by
    unfold isB at cb1
    simp only [Bool.and_eq_true, decide_eq_true_eq] at cb1
    omega
   have hx := HC.out.symm.trans HI.out.2.2
   rw [if_neg cb] at hx
   obtain ⟨ad2, e2, f0, f1⟩ := at_T90 HR0.out (rd l1 i) hs.1 hs.2
   replace f0 : wr.cell? (ad2.add ((rd l1 i).toNat * 2)) = some (.int .i64 (rd_T90 l0 (rd l1 i)).f0) := by obtain ⟨n, e⟩ := HB.out.out; rw [e]; simpa using f0
   replace f1 : wr.cell? ⟨(ad2.add ((rd l1 i).toNat * 2)).block, (ad2.add ((rd l1 i).toNat * 2)).off + 1, none⟩ = some (.int .i64 (rd_T90 l0 (rd l1 i)).f1) := by obtain ⟨n, e⟩ := HB.out.out; rw [e]; simpa using f1
   subst e2
   have hs0 : decide (0 ≤ rd l1 i) = true := decide_eq_true hs.1
   have hs1 : decide (rd l1 i < (l0.length : Int)) = true := decide_eq_true hs.2
   clear cb cb1 KC HC
   obtain ⟨t2, ht2⟩ : ∃ x, wrap64 (t + (rd_T90 l0 (rd l1 i)).f0) = x := ⟨_, rfl⟩
   obtain ⟨a2, ha2⟩ : ∃ x, wrap64 (a + (rd_T90 l0 (rd l1 i)).f1) = x := ⟨_, rfl⟩
   rw [ht2, ha2] at hx
   have wi : wrap64 (i + 1) = i + 1 := by have := HQ.out.2; unfold wrap64; omega
   by_cases cz : i = 0
   ·
    have HX : Aside0 (chosenL l0 (prevO l1 (i + 1)) t2 a2 (l1.drop (i + 1).toNat) = (r1, r2, r3)) := ⟨by
     rw [if_neg (by rw [show prevO l1 i = none from if_pos cz]; simp)] at hx
     exact hx⟩
    clear hx
    have cp : decide (0 < i) = false := decide_eq_false (by omega)
    clear cz
    have W3 := Aside0.mk (And.intro ht2 (And.intro ha2 wi))
    clear ht2 ha2 wi
    go_wp2_with fail
    go_quiet ((go_at_call 61; (try rw [i64_w]); with_reducible exact KC'.out _ _))
    go_wp2_with fail
    go_quiet (fail)
    go_wp2
    go_roundg (l1.length - (i + 1).toNat)
    case measure => have := HI.out.2.1; omega
    case rel => exact ⟨i + 1, t2, a2, by rw [W3.out.2.2], by rw [W3.out.1], by rw [W3.out.2.1], ⟨by omega, by omega, HX.out⟩, ⟨HB.out.step _⟩⟩
   ·
    obtain ⟨j, hj⟩ : ∃ j : Int, i - 1 = j := ⟨_, rfl⟩
    have p0 : 0 ≤ j := by omega
    have p1 : j < (l1.length : Int) := by omega
    obtain ⟨ad3, e3, h1⟩ := Kd.at_int HR1.out j p0 p1
    cases e3
    replace h1 : wr.cell? (ad.add j.toNat) = some (.int .i64 (rd l1 j)) := by obtain ⟨n, e⟩ := HB.out.out; rw [e]; simpa using h1
    have q0 : decide (0 ≤ j) = true := decide_eq_true p0
    have q1 : decide (j < (l1.length : Int)) = true := decide_eq_true p1
    have cp : decide (0 < i) = true := decide_eq_true (by omega)
    have WM := Aside0.mk (show IntKind.i64.wrap (i - 1) = j by rw [i64_w]; have := HQ.out.2; unfold wrap64; omega)
    rw [show prevO l1 i = some (rd l1 (i - 1)) from if_neg cz, hj] at hx
    clear cz hj
    by_cases cx : rd l1 i < rd l1 j
    ·
     rw [if_pos (by simpa using cx)] at hx
     simp only [Prod.mk.injEq] at hx
     obtain ⟨rfl, rfl, rfl⟩ := hx
     have cxb : decide (rd l1 i < rd l1 j) = true := decide_eq_true cx
     clear ht2 ha2 wi cx
     go_wp2_with fail
     have wm := WM.out
     go_quiet ((go_at_call 61; (try rw [i64_w]); with_reducible exact KC'.out _ _))
     go_wp2
     go_ret3
     exact ⟨rfl, HB.out.step _⟩
    ·
     have HX : Aside0 (chosenL l0 (prevO l1 (i + 1)) t2 a2 (l1.drop (i + 1).toNat) = (r1, r2, r3)) := ⟨by
      rw [if_neg (by simpa using cx)] at hx
      exact hx⟩
     have cxb : decide (rd l1 i < rd l1 j) = false := decide_eq_false cx
     have W3 := Aside0.mk (And.intro ht2 (And.intro ha2 wi))
     clear ht2 ha2 wi cx hx
     go_wp2_with fail
     have wm := WM.out
     go_quiet ((go_at_call 61; (try rw [i64_w]); with_reducible exact KC'.out _ _))
     clear wm
     go_wp2_with fail
     go_quiet (fail)
     go_wp2
     go_roundg (l1.length - (i + 1).toNat)
     case measure => have := HI.out.2.1; omega
     case rel => exact ⟨i + 1, t2, a2, by rw [W3.out.2.2], by rw [W3.out.1], by rw [W3.out.2.1], ⟨by omega, by omega, HX.out⟩, ⟨HB.out.step _⟩⟩
  ·
   have hx := HI.out.2.2
   rw [List.drop_eq_nil_of_le (by omega)] at hx
   simp only [chosenL, Prod.mk.injEq] at hx
   obtain ⟨rfl, rfl, rfl⟩ := hx
   go_wp2
   go_ret3
   exact ⟨rfl, HB.out⟩
end Go.Proofs.Ythoeindopljmkaa.P
end
section
namespace Go.Proofs.Ythoeindopljmkaa.P
open Go.RowKit Go.Proofs.YthoeindopljmkaaW.PrintWords Go.Proofs.YthoeindopljmkaaW.PrintLast Go.Proofs.YthoeindopljmkaaW.PrintMore
attribute [local go_sem] max2_int min2_int max_two min_two max_three min_three max_four min_four
set_option linter.unusedVariables false
set_option linter.unusedSimpArgs false
def pianolalaw04_PumpBounds.j0 : Nat → Int → List (S90) → Int → Int → Int → List Int → List Int → Bool → Option (Bool)
  | 0, _, _, _, _, _, _, _, _ => none
  | k + 1, x1, x5, x8, x9, x12, x14, x16, x100 => if x100 = true then (some false) else (if x9 = 0 then ((pianolaref04_Chosen.f x5 x14).bind fun bt183 => ((pianolaref04_Chosen.f x5 x16).bind fun bt186 => (if bt183.2.2 = true then (if bt186.2.2 = true then (if bt183.1 ≥ x1 then (if bt183.2.1 = x8 then (if bt186.1 ≤ x1 then (if bt186.2.1 = x12 then ((pianolalaw04_works.f).bind fun t189 => (some t189)) else (some false)) else (some false)) else (some false)) else (some false)) else (some false)) else (some false)))) else (if (x14.length : Int) = 0 then (if (x16.length : Int) = 0 then ((pianolalaw04_works.f).bind fun t190 => (some t190)) else (some false)) else (some false)))
def pianolalaw04_PumpBounds.f (k : Nat) (l0 : List (S71)) (a1 : Int) : Option (Bool) := if (l0.length : Int) > 20 then ((pianolalaw04_works.f).bind fun t161 => (some t161)) else ((pianolalaw04_given.f k l0).bind fun t162 => ((pump_Most.f l0 a1).bind fun bt165 => ((pianolaref04_Most.f k t162 a1).bind fun bt167 => ((pump_Least.f l0 a1).bind fun bt169 => ((pianolaref04_Least.f k t162 a1).bind fun bt171 => ((pump_Cover.f l0 a1).bind fun bt173 => ((pump_Pack.f l0 a1).bind fun bt177 => (if bt165.1 = bt167.1 then (if bt165.2 = bt167.2 then (if bt169.1 = bt171.1 then (if bt169.2 = bt171.2 then (if bt173.2 = bt167.2 then (if bt177.2 = bt167.2 then ((pump_CheckBounds.f l0).bind fun t181 => ((pianolaref04_CheckBounds.f k t162).bind fun t182 => (pianolalaw04_PumpBounds.j0 k a1 t162 bt167.1 bt167.2 bt171.1 bt173.1 bt177.1 (t181 != t182)))) else (pianolalaw04_PumpBounds.j0 k a1 t162 bt167.1 bt167.2 bt171.1 bt173.1 bt177.1 true)) else (pianolalaw04_PumpBounds.j0 k a1 t162 bt167.1 bt167.2 bt171.1 bt173.1 bt177.1 true)) else (pianolalaw04_PumpBounds.j0 k a1 t162 bt167.1 bt167.2 bt171.1 bt173.1 bt177.1 true)) else (pianolalaw04_PumpBounds.j0 k a1 t162 bt167.1 bt167.2 bt171.1 bt173.1 bt177.1 true)) else (pianolalaw04_PumpBounds.j0 k a1 t162 bt167.1 bt167.2 bt171.1 bt173.1 bt177.1 true)) else (pianolalaw04_PumpBounds.j0 k a1 t162 bt167.1 bt167.2 bt171.1 bt173.1 bt177.1 true)))))))))
set_option maxHeartbeats 8000000 in
set_option maxRecDepth 100000 in
theorem pianolalaw04_PumpBounds.calls (k : Nat) (A0 : Option Addr) (c0 : Nat) (l0 : List (S71)) (a1 : Int) (r : Bool) (w : World) (hr0 : Kd.C k71 w A0 l0.length l0) (hc0 : l0.length ≤ c0) (h : pianolalaw04_PumpBounds.f k l0 a1 = some r) :
  Calls Try.prog 3 #[.slice A0 l0.length c0, .int .i64 a1] w fun e w' => e = .returned (.bool r) ∧ Below w.heap.size w w' := by
 have HR0 := Aside0.mk hr0
 have HC0 := Aside0.mk hc0
 clear hr0 hc0
 have HB := Aside0.mk (Below.refl w.heap.size w)
 have H : (if (l0.length : Int) > 20 then ((pianolalaw04_works.f).bind fun t161 => (some t161)) else ((pianolalaw04_given.f k l0).bind fun t162 => ((pump_Most.f l0 a1).bind fun bt165 => ((pianolaref04_Most.f k t162 a1).bind fun bt167 => ((pump_Least.f l0 a1).bind fun bt169 => ((pianolaref04_Least.f k t162 a1).bind fun bt171 => ((pump_Cover.f l0 a1).bind fun bt173 => ((pump_Pack.f l0 a1).bind fun bt177 => (if bt165.1 = bt167.1 then (if bt165.2 = bt167.2 then (if bt169.1 = bt171.1 then (if bt169.2 = bt171.2 then (if bt173.2 = bt167.2 then (if bt177.2 = bt167.2 then ((pump_CheckBounds.f l0).bind fun t181 => ((pianolaref04_CheckBounds.f k t162).bind fun t182 => (pianolalaw04_PumpBounds.j0 k a1 t162 bt167.1 bt167.2 bt171.1 bt173.1 bt177.1 (t181 != t182)))) else (pianolalaw04_PumpBounds.j0 k a1 t162 bt167.1 bt167.2 bt171.1 bt173.1 bt177.1 true)) else (pianolalaw04_PumpBounds.j0 k a1 t162 bt167.1 bt167.2 bt171.1 bt173.1 bt177.1 true)) else (pianolalaw04_PumpBounds.j0 k a1 t162 bt167.1 bt167.2 bt171.1 bt173.1 bt177.1 true)) else (pianolalaw04_PumpBounds.j0 k a1 t162 bt167.1 bt167.2 bt171.1 bt173.1 bt177.1 true)) else (pianolalaw04_PumpBounds.j0 k a1 t162 bt167.1 bt167.2 bt171.1 bt173.1 bt177.1 true)) else (pianolalaw04_PumpBounds.j0 k a1 t162 bt167.1 bt167.2 bt171.1 bt173.1 bt177.1 true)))))))))) = some r := h
 clear h
 by_cases c3 : (l0.length : Int) > 20
 ·
  rw [if_pos c3] at H
  have c3b0 : decide (20 < (l0.length : Int)) = true := decide_eq_true c3
  have c3b1 : decide (20 < l0.length) = true := decide_eq_true (by omega)
  clear c3
  replace H := Option.bind_eq_some_iff.mp H
  obtain ⟨t161, A40, H⟩ := H
  replace H : (some t161) = some r := H
  have A4 := Aside0.mk A40
  clear A40
  obtain rfl := Option.some.inj H
  go_enter Try.func3, Try.ntmps3
  go_wp2_with (first | ((with_reducible refine gate_callee (f := 15) rfl ?_); refine goesL_ (some 27) rfl rfl Try.func15 (by kernel_rfl) rfl #[] rfl (by (try simp only [List.map_toArray, List.map_cons, List.map_nil]); first | done | rfl | (simp only [List.length_drop, List.length_take]; rfl)) ?_; (with_reducible refine (pianolalaw04_works.calls  t161 _ A4.out).mono ?_); rintro e w5 ⟨rfl, hb⟩; refine ⟨_, rfl, ?_⟩; have n0_ := Aside0.mk (below_step (zqA HB.out) hb); clear HB; have HB := n0_; clear n0_; (try clear hb); (try clear hb2); (try clear hk); (try clear hi)))
  go_ret
  exact ⟨by first | rfl | (simp [errW_none, errW_some] <;> rfl) | (simp [*, errW_none, errW_some] <;> rfl), zqA HB.out⟩
 ·
  rw [if_neg c3] at H
  have c3b0 : decide (20 < (l0.length : Int)) = false := decide_eq_false c3
  have c3b1 : decide (20 < l0.length) = false := decide_eq_false (by omega)
  clear c3
  replace H := Option.bind_eq_some_iff.mp H
  obtain ⟨t162, A60, H⟩ := H
  replace H : ((pump_Most.f l0 a1).bind fun bt165 => ((pianolaref04_Most.f k t162 a1).bind fun bt167 => ((pump_Least.f l0 a1).bind fun bt169 => ((pianolaref04_Least.f k t162 a1).bind fun bt171 => ((pump_Cover.f l0 a1).bind fun bt173 => ((pump_Pack.f l0 a1).bind fun bt177 => (if bt165.1 = bt167.1 then (if bt165.2 = bt167.2 then (if bt169.1 = bt171.1 then (if bt169.2 = bt171.2 then (if bt173.2 = bt167.2 then (if bt177.2 = bt167.2 then ((pump_CheckBounds.f l0).bind fun t181 => ((pianolaref04_CheckBounds.f k t162).bind fun t182 => (pianolalaw04_PumpBounds.j0 k a1 t162 bt167.1 bt167.2 bt171.1 bt173.1 bt177.1 (t181 != t182)))) else (pianolalaw04_PumpBounds.j0 k a1 t162 bt167.1 bt167.2 bt171.1 bt173.1 bt177.1 true)) else (pianolalaw04_PumpBounds.j0 k a1 t162 bt167.1 bt167.2 bt171.1 bt173.1 bt177.1 true)) else (pianolalaw04_PumpBounds.j0 k a1 t162 bt167.1 bt167.2 bt171.1 bt173.1 bt177.1 true)) else (pianolalaw04_PumpBounds.j0 k a1 t162 bt167.1 bt167.2 bt171.1 bt173.1 bt177.1 true)) else (pianolalaw04_PumpBounds.j0 k a1 t162 bt167.1 bt167.2 bt171.1 bt173.1 bt177.1 true)) else (pianolalaw04_PumpBounds.j0 k a1 t162 bt167.1 bt167.2 bt171.1 bt173.1 bt177.1 true)))))))) = some r := H
  have A6 := Aside0.mk A60
  clear A60
  replace H := Option.bind_eq_some_iff.mp H
  obtain ⟨⟨t165, t166⟩, A70, H⟩ := H
  replace H : ((pianolaref04_Most.f k t162 a1).bind fun bt167 => ((pump_Least.f l0 a1).bind fun bt169 => ((pianolaref04_Least.f k t162 a1).bind fun bt171 => ((pump_Cover.f l0 a1).bind fun bt173 => ((pump_Pack.f l0 a1).bind fun bt177 => (if t165 = bt167.1 then (if t166 = bt167.2 then (if bt169.1 = bt171.1 then (if bt169.2 = bt171.2 then (if bt173.2 = bt167.2 then (if bt177.2 = bt167.2 then ((pump_CheckBounds.f l0).bind fun t181 => ((pianolaref04_CheckBounds.f k t162).bind fun t182 => (pianolalaw04_PumpBounds.j0 k a1 t162 bt167.1 bt167.2 bt171.1 bt173.1 bt177.1 (t181 != t182)))) else (pianolalaw04_PumpBounds.j0 k a1 t162 bt167.1 bt167.2 bt171.1 bt173.1 bt177.1 true)) else (pianolalaw04_PumpBounds.j0 k a1 t162 bt167.1 bt167.2 bt171.1 bt173.1 bt177.1 true)) else (pianolalaw04_PumpBounds.j0 k a1 t162 bt167.1 bt167.2 bt171.1 bt173.1 bt177.1 true)) else (pianolalaw04_PumpBounds.j0 k a1 t162 bt167.1 bt167.2 bt171.1 bt173.1 bt177.1 true)) else (pianolalaw04_PumpBounds.j0 k a1 t162 bt167.1 bt167.2 bt171.1 bt173.1 bt177.1 true)) else (pianolalaw04_PumpBounds.j0 k a1 t162 bt167.1 bt167.2 bt171.1 bt173.1 bt177.1 true))))))) = some r := H
  have A7 := Aside0.mk A70
  clear A70
  replace H := Option.bind_eq_some_iff.mp H
  obtain ⟨⟨t167, t168⟩, A80, H⟩ := H
  replace H : ((pump_Least.f l0 a1).bind fun bt169 => ((pianolaref04_Least.f k t162 a1).bind fun bt171 => ((pump_Cover.f l0 a1).bind fun bt173 => ((pump_Pack.f l0 a1).bind fun bt177 => (if t165 = t167 then (if t166 = t168 then (if bt169.1 = bt171.1 then (if bt169.2 = bt171.2 then (if bt173.2 = t168 then (if bt177.2 = t168 then ((pump_CheckBounds.f l0).bind fun t181 => ((pianolaref04_CheckBounds.f k t162).bind fun t182 => (pianolalaw04_PumpBounds.j0 k a1 t162 t167 t168 bt171.1 bt173.1 bt177.1 (t181 != t182)))) else (pianolalaw04_PumpBounds.j0 k a1 t162 t167 t168 bt171.1 bt173.1 bt177.1 true)) else (pianolalaw04_PumpBounds.j0 k a1 t162 t167 t168 bt171.1 bt173.1 bt177.1 true)) else (pianolalaw04_PumpBounds.j0 k a1 t162 t167 t168 bt171.1 bt173.1 bt177.1 true)) else (pianolalaw04_PumpBounds.j0 k a1 t162 t167 t168 bt171.1 bt173.1 bt177.1 true)) else (pianolalaw04_PumpBounds.j0 k a1 t162 t167 t168 bt171.1 bt173.1 bt177.1 true)) else (pianolalaw04_PumpBounds.j0 k a1 t162 t167 t168 bt171.1 bt173.1 bt177.1 true)))))) = some r := H
  have A8 := Aside0.mk A80
  clear A80
  replace H := Option.bind_eq_some_iff.mp H
  obtain ⟨⟨t169, t170⟩, A90, H⟩ := H
  replace H : ((pianolaref04_Least.f k t162 a1).bind fun bt171 => ((pump_Cover.f l0 a1).bind fun bt173 => ((pump_Pack.f l0 a1).bind fun bt177 => (if t165 = t167 then (if t166 = t168 then (if t169 = bt171.1 then (if t170 = bt171.2 then (if bt173.2 = t168 then (if bt177.2 = t168 then ((pump_CheckBounds.f l0).bind fun t181 => ((pianolaref04_CheckBounds.f k t162).bind fun t182 => (pianolalaw04_PumpBounds.j0 k a1 t162 t167 t168 bt171.1 bt173.1 bt177.1 (t181 != t182)))) else (pianolalaw04_PumpBounds.j0 k a1 t162 t167 t168 bt171.1 bt173.1 bt177.1 true)) else (pianolalaw04_PumpBounds.j0 k a1 t162 t167 t168 bt171.1 bt173.1 bt177.1 true)) else (pianolalaw04_PumpBounds.j0 k a1 t162 t167 t168 bt171.1 bt173.1 bt177.1 true)) else (pianolalaw04_PumpBounds.j0 k a1 t162 t167 t168 bt171.1 bt173.1 bt177.1 true)) else (pianolalaw04_PumpBounds.j0 k a1 t162 t167 t168 bt171.1 bt173.1 bt177.1 true)) else (pianolalaw04_PumpBounds.j0 k a1 t162 t167 t168 bt171.1 bt173.1 bt177.1 true))))) = some r := H
  have A9 := Aside0.mk A90
  clear A90
  replace H := Option.bind_eq_some_iff.mp H
  obtain ⟨⟨t171, t172⟩, A100, H⟩ := H
  replace H : ((pump_Cover.f l0 a1).bind fun bt173 => ((pump_Pack.f l0 a1).bind fun bt177 => (if t165 = t167 then (if t166 = t168 then (if t169 = t171 then (if t170 = t172 then (if bt173.2 = t168 then (if bt177.2 = t168 then ((pump_CheckBounds.f l0).bind fun t181 => ((pianolaref04_CheckBounds.f k t162).bind fun t182 => (pianolalaw04_PumpBounds.j0 k a1 t162 t167 t168 t171 bt173.1 bt177.1 (t181 != t182)))) else (pianolalaw04_PumpBounds.j0 k a1 t162 t167 t168 t171 bt173.1 bt177.1 true)) else (pianolalaw04_PumpBounds.j0 k a1 t162 t167 t168 t171 bt173.1 bt177.1 true)) else (pianolalaw04_PumpBounds.j0 k a1 t162 t167 t168 t171 bt173.1 bt177.1 true)) else (pianolalaw04_PumpBounds.j0 k a1 t162 t167 t168 t171 bt173.1 bt177.1 true)) else (pianolalaw04_PumpBounds.j0 k a1 t162 t167 t168 t171 bt173.1 bt177.1 true)) else (pianolalaw04_PumpBounds.j0 k a1 t162 t167 t168 t171 bt173.1 bt177.1 true)))) = some r := H
  have A10 := Aside0.mk A100
  clear A100
  replace H := Option.bind_eq_some_iff.mp H
  obtain ⟨⟨t173, t174⟩, A110, H⟩ := H
  replace H : ((pump_Pack.f l0 a1).bind fun bt177 => (if t165 = t167 then (if t166 = t168 then (if t169 = t171 then (if t170 = t172 then (if t174 = t168 then (if bt177.2 = t168 then ((pump_CheckBounds.f l0).bind fun t181 => ((pianolaref04_CheckBounds.f k t162).bind fun t182 => (pianolalaw04_PumpBounds.j0 k a1 t162 t167 t168 t171 t173 bt177.1 (t181 != t182)))) else (pianolalaw04_PumpBounds.j0 k a1 t162 t167 t168 t171 t173 bt177.1 true)) else (pianolalaw04_PumpBounds.j0 k a1 t162 t167 t168 t171 t173 bt177.1 true)) else (pianolalaw04_PumpBounds.j0 k a1 t162 t167 t168 t171 t173 bt177.1 true)) else (pianolalaw04_PumpBounds.j0 k a1 t162 t167 t168 t171 t173 bt177.1 true)) else (pianolalaw04_PumpBounds.j0 k a1 t162 t167 t168 t171 t173 bt177.1 true)) else (pianolalaw04_PumpBounds.j0 k a1 t162 t167 t168 t171 t173 bt177.1 true))) = some r := H
  have A11 := Aside0.mk A110
  clear A110
  replace H := Option.bind_eq_some_iff.mp H
  obtain ⟨⟨t177, t178⟩, A120, H⟩ := H
  replace H : (if t165 = t167 then (if t166 = t168 then (if t169 = t171 then (if t170 = t172 then (if t174 = t168 then (if t178 = t168 then ((pump_CheckBounds.f l0).bind fun t181 => ((pianolaref04_CheckBounds.f k t162).bind fun t182 => (pianolalaw04_PumpBounds.j0 k a1 t162 t167 t168 t171 t173 t177 (t181 != t182)))) else (pianolalaw04_PumpBounds.j0 k a1 t162 t167 t168 t171 t173 t177 true)) else (pianolalaw04_PumpBounds.j0 k a1 t162 t167 t168 t171 t173 t177 true)) else (pianolalaw04_PumpBounds.j0 k a1 t162 t167 t168 t171 t173 t177 true)) else (pianolalaw04_PumpBounds.j0 k a1 t162 t167 t168 t171 t173 t177 true)) else (pianolalaw04_PumpBounds.j0 k a1 t162 t167 t168 t171 t173 t177 true)) else (pianolalaw04_PumpBounds.j0 k a1 t162 t167 t168 t171 t173 t177 true)) = some r := H
  have A12 := Aside0.mk A120
  clear A120
  have HC13 := Aside0.mk H
  clear H
  go_enter Try.func3, Try.ntmps3
  go_upto_region 10 with (first | ((with_reducible refine gate_callee (f := 16) rfl ?_); refine goesL_ (some 29) rfl rfl Try.func16 (by kernel_rfl) rfl #[.slice A0 l0.length c0] rfl (by (try simp only [List.map_toArray, List.map_cons, List.map_nil]); first | done | rfl | (simp only [List.length_drop, List.length_take]; rfl)) ?_; (with_reducible refine (pianolalaw04_given.calls k _ _ l0 t162 _ ?side1 ?side2 A6.out).mono ?_); (case side1 => repeat (first | exact HR0.out | (with_reducible refine Kd.C_alloc ?_ _) | (with_reducible refine Kd.C_drewN ?_ _) | (with_reducible refine Kd.C_drew ?_))); (case side2 => exact HC0.out); rintro e w14 ⟨v163, rfl, ho0, hb⟩; refine ⟨_, rfl, ?_⟩; have n0_ := Aside0.mk (Kd.R_lower ho0 (below_size (zqA HB.out))); have n1_ := Aside0.mk (below_step (zqA HB.out) hb); clear HB; have HO164 := n0_; have HB := n1_; clear n0_ n1_; (try clear hb); (try clear hb2); (try clear hk); (try clear hi); (try clear ho0)) | ((with_reducible refine gate_callee (f := 17) rfl ?_); refine goesL_ (some 33) rfl rfl Try.func17 (by kernel_rfl) rfl #[.slice A0 l0.length c0, .int .i64 a1] rfl (by (try simp only [List.map_toArray, List.map_cons, List.map_nil]); first | done | rfl | (simp only [List.length_drop, List.length_take]; rfl)) ?_; (with_reducible refine (pump_Most.calls _ _ l0 a1 t165 t166 _ ?side1 ?side2 A7.out).mono ?_); (case side1 => repeat (first | exact (Kd.C_below HR0.out HB.out) | (with_reducible refine Kd.C_alloc ?_ _) | (with_reducible refine Kd.C_drewN ?_ _) | (with_reducible refine Kd.C_drew ?_))); (case side2 => exact HC0.out); rintro e w15 ⟨rfl, hb⟩; refine ⟨_, rfl, ?_⟩; have n0_ := Aside0.mk (Kd.R_below (zqC HO164.out) hb); have n1_ := Aside0.mk (below_step (zqA HB.out) hb); clear HO164; clear HB; have HO164 := n0_; have HB := n1_; clear n0_ n1_; (try clear hb); (try clear hb2); (try clear hk); (try clear hi); obtain ⟨Ao16, co16, eo16⟩ := Kd.R_slice HO164.out; subst eo16) | ((with_reducible refine gate_callee (f := 18) rfl ?_); refine goesL_ (some 39) rfl rfl Try.func18 (by kernel_rfl) rfl #[.slice Ao16 t162.length co16, .int .i64 a1] rfl (by (try simp only [List.map_toArray, List.map_cons, List.map_nil]); first | done | rfl | (simp only [List.length_drop, List.length_take]; rfl)) ?_; (with_reducible refine (pianolaref04_Most.calls k _ _ t162 a1 t167 t168 _ ?side1 ?side2 A8.out).mono ?_); (case side1 => repeat (first | exact (Kd.R_reads' HO164.out).2.2 | (with_reducible refine Kd.C_alloc ?_ _) | (with_reducible refine Kd.C_drewN ?_ _) | (with_reducible refine Kd.C_drew ?_))); (case side2 => exact (Kd.R_reads' HO164.out).2.1); rintro e w17 ⟨rfl, hb⟩; refine ⟨_, rfl, ?_⟩; have n0_ := Aside0.mk (Kd.R_below (zqC HO164.out) hb); have n1_ := Aside0.mk (below_step (zqA HB.out) hb); clear HO164; clear HB; have HO164 := n0_; have HB := n1_; clear n0_ n1_; (try clear hb); (try clear hb2); (try clear hk); (try clear hi)) | ((with_reducible refine gate_callee (f := 19) rfl ?_); refine goesL_ (some 45) rfl rfl Try.func19 (by kernel_rfl) rfl #[.slice A0 l0.length c0, .int .i64 a1] rfl (by (try simp only [List.map_toArray, List.map_cons, List.map_nil]); first | done | rfl | (simp only [List.length_drop, List.length_take]; rfl)) ?_; (with_reducible refine (pump_Least.calls _ _ l0 a1 t169 t170 _ ?side1 ?side2 A9.out).mono ?_); (case side1 => repeat (first | exact (Kd.C_below HR0.out HB.out) | (with_reducible refine Kd.C_alloc ?_ _) | (with_reducible refine Kd.C_drewN ?_ _) | (with_reducible refine Kd.C_drew ?_))); (case side2 => exact HC0.out); rintro e w18 ⟨rfl, hb⟩; refine ⟨_, rfl, ?_⟩; have n0_ := Aside0.mk (Kd.R_below (zqC HO164.out) hb); have n1_ := Aside0.mk (below_step (zqA HB.out) hb); clear HO164; clear HB; have HO164 := n0_; have HB := n1_; clear n0_ n1_; (try clear hb); (try clear hb2); (try clear hk); (try clear hi)) | ((with_reducible refine gate_callee (f := 20) rfl ?_); refine goesL_ (some 51) rfl rfl Try.func20 (by kernel_rfl) rfl #[.slice Ao16 t162.length co16, .int .i64 a1] rfl (by (try simp only [List.map_toArray, List.map_cons, List.map_nil]); first | done | rfl | (simp only [List.length_drop, List.length_take]; rfl)) ?_; (with_reducible refine (pianolaref04_Least.calls k _ _ t162 a1 t171 t172 _ ?side1 ?side2 A10.out).mono ?_); (case side1 => repeat (first | exact (Kd.R_reads' HO164.out).2.2 | (with_reducible refine Kd.C_alloc ?_ _) | (with_reducible refine Kd.C_drewN ?_ _) | (with_reducible refine Kd.C_drew ?_))); (case side2 => exact (Kd.R_reads' HO164.out).2.1); rintro e w19 ⟨rfl, hb⟩; refine ⟨_, rfl, ?_⟩; have n0_ := Aside0.mk (Kd.R_below (zqC HO164.out) hb); have n1_ := Aside0.mk (below_step (zqA HB.out) hb); clear HO164; clear HB; have HO164 := n0_; have HB := n1_; clear n0_ n1_; (try clear hb); (try clear hb2); (try clear hk); (try clear hi)) | ((with_reducible refine gate_callee (f := 21) rfl ?_); refine goesL_ (some 57) rfl rfl Try.func21 (by kernel_rfl) rfl #[.slice A0 l0.length c0, .int .i64 a1] rfl (by (try simp only [List.map_toArray, List.map_cons, List.map_nil]); first | done | rfl | (simp only [List.length_drop, List.length_take]; rfl)) ?_; (with_reducible refine (pump_Cover.calls _ _ l0 a1 t173 t174 _ ?side1 ?side2 A11.out).mono ?_); (case side1 => repeat (first | exact (Kd.C_below HR0.out HB.out) | (with_reducible refine Kd.C_alloc ?_ _) | (with_reducible refine Kd.C_drewN ?_ _) | (with_reducible refine Kd.C_drew ?_))); (case side2 => exact HC0.out); rintro e w20 ⟨v175, rfl, ho0, hb⟩; refine ⟨_, rfl, ?_⟩; have n0_ := Aside0.mk (Kd.R_below (zqC HO164.out) hb); have n1_ := Aside0.mk (Kd.R_lower ho0 (below_size (zqA HB.out))); have n2_ := Aside0.mk (below_step (zqA HB.out) hb); clear HO164; clear HB; have HO164 := n0_; have HO176 := n1_; have HB := n2_; clear n0_ n1_ n2_; (try clear hb); (try clear hb2); (try clear hk); (try clear hi); (try clear ho0)) | ((with_reducible refine gate_callee (f := 22) rfl ?_); refine goesL_ (some 63) rfl rfl Try.func22 (by kernel_rfl) rfl #[.slice A0 l0.length c0, .int .i64 a1] rfl (by (try simp only [List.map_toArray, List.map_cons, List.map_nil]); first | done | rfl | (simp only [List.length_drop, List.length_take]; rfl)) ?_; (with_reducible refine (pump_Pack.calls _ _ l0 a1 t177 t178 _ ?side1 ?side2 A12.out).mono ?_); (case side1 => repeat (first | exact (Kd.C_below HR0.out HB.out) | (with_reducible refine Kd.C_alloc ?_ _) | (with_reducible refine Kd.C_drewN ?_ _) | (with_reducible refine Kd.C_drew ?_))); (case side2 => exact HC0.out); rintro e w21 ⟨v179, rfl, ho0, hb⟩; refine ⟨_, rfl, ?_⟩; have n0_ := Aside0.mk (Kd.R_below (zqC HO164.out) hb); have n1_ := Aside0.mk (Kd.R_elder' (zqC HO176.out) (Kd.R_base ho0) hb); have n2_ := Aside0.mk (Kd.R_lower (Kd.R_new' ho0 (Kd.R_lt (zqC HO176.out))) (below_size (zqA HB.out))); have n3_ := Aside0.mk (below_step (zqA HB.out) hb); clear HO164; clear HO176; clear HB; have HO164 := n0_; have HO176 := n1_; have HO180 := n2_; have HB := n3_; clear n0_ n1_ n2_ n3_; (try clear hb); (try clear hb2); (try clear hk); (try clear hi); (try clear ho0)))
  (try simp only [Act.put, List.setIfInBounds_toArray, List.set_cons_zero, List.set_cons_succ])
  go_cut [100] (fun v100 wc => ∃ (kq : Nat) (x100_12 : Bool), v100 = .bool x100_12 ∧ Aside0 (pianolalaw04_PumpBounds.j0 kq a1 t162 t167 t168 t171 t173 t177 x100_12 = some r) ∧ Aside0 (kq ≤ k) ∧ Aside0 (Kd.R k90 90 wc w.heap.size (fun _ => True) (.slice Ao16 t162.length co16) t162) ∧ Aside0 (Kd.R (Kd.int .i64) 3 wc w.heap.size (fun k_ => some k_ ≠ (v179 : Value).ownBlock) v175 t173) ∧ Aside0 (Kd.R (Kd.int .i64) 3 wc w.heap.size (fun k_ => some k_ ≠ (v175 : Value).ownBlock) v179 t177) ∧ Aside0 (Below w.heap.size w wc))
  case first =>
   have H := HC13.out
   clear HC13
   by_cases c22 : t165 = t167
   ·
    rw [if_pos c22] at H
    have c22b0 : (t165 == t167) = true := beq_iff_eq.mpr c22
    have c22b1 : (t165 != t167) = false := bne_eq_false_iff_eq.mpr c22
    clear c22
    (first | rw [c22b0] | rw [c22b1] | (simp only [i64_w, i32_w]; rw [c22b0]) | skip)
    by_cases c23 : t166 = t168
    ·
     rw [if_pos c23] at H
     have c23b0 : (t166 == t168) = true := beq_iff_eq.mpr c23
     have c23b1 : (t166 != t168) = false := bne_eq_false_iff_eq.mpr c23
     clear c23
     by_cases c24 : t169 = t171
     ·
      rw [if_pos c24] at H
      have c24b0 : (t169 == t171) = true := beq_iff_eq.mpr c24
      have c24b1 : (t169 != t171) = false := bne_eq_false_iff_eq.mpr c24
      clear c24
      by_cases c25 : t170 = t172
      ·
       rw [if_pos c25] at H
       have c25b0 : (t170 == t172) = true := beq_iff_eq.mpr c25
       have c25b1 : (t170 != t172) = false := bne_eq_false_iff_eq.mpr c25
       clear c25
       by_cases c26 : t174 = t168
       ·
        rw [if_pos c26] at H
        have c26b0 : (t174 == t168) = true := beq_iff_eq.mpr c26
        have c26b1 : (t174 != t168) = false := bne_eq_false_iff_eq.mpr c26
        clear c26
        by_cases c27 : t178 = t168
        ·
         rw [if_pos c27] at H
         have c27b0 : (t178 == t168) = true := beq_iff_eq.mpr c27
         have c27b1 : (t178 != t168) = false := bne_eq_false_iff_eq.mpr c27
         clear c27
         replace H := Option.bind_eq_some_iff.mp H
         obtain ⟨t181, A280, H⟩ := H
         replace H : ((pianolaref04_CheckBounds.f k t162).bind fun t182 => (pianolalaw04_PumpBounds.j0 k a1 t162 t167 t168 t171 t173 t177 (t181 != t182))) = some r := H
         have A28 := Aside0.mk A280
         clear A280
         replace H := Option.bind_eq_some_iff.mp H
         obtain ⟨t182, A290, H⟩ := H
         replace H : (pianolalaw04_PumpBounds.j0 k a1 t162 t167 t168 t171 t173 t177 (t181 != t182)) = some r := H
         have A29 := Aside0.mk A290
         clear A290
         have H' := Aside0.mk H
         clear H
         go_wp2_with (first | (go_at_call 23; (with_reducible refine (pump_CheckBounds.calls _ _ l0 t181 _ ?side1 ?side2 A28.out).mono ?_); (case side1 => repeat (first | exact (Kd.C_below HR0.out HB.out) | (with_reducible refine Kd.C_alloc ?_ _) | (with_reducible refine Kd.C_drewN ?_ _) | (with_reducible refine Kd.C_drew ?_))); (case side2 => exact HC0.out); rintro e w30 ⟨rfl, hb⟩; have n0_ := Aside0.mk (Kd.R_below (zqC HO164.out) hb); have n1_ := Aside0.mk (Kd.R_below (zqC HO176.out) hb); have n2_ := Aside0.mk (Kd.R_below (zqC HO180.out) hb); have n3_ := Aside0.mk (below_step (zqA HB.out) hb); clear HO164; clear HO176; clear HO180; clear HB; have HO164 := n0_; have HO176 := n1_; have HO180 := n2_; have HB := n3_; clear n0_ n1_ n2_ n3_; (try clear hb); (try clear hb2); (try clear hk); (try clear hi)) | (go_at_call 24; (with_reducible refine (pianolaref04_CheckBounds.calls k _ _ t162 t182 _ ?side1 ?side2 A29.out).mono ?_); (case side1 => repeat (first | exact (Kd.R_reads' HO164.out).2.2 | (with_reducible refine Kd.C_alloc ?_ _) | (with_reducible refine Kd.C_drewN ?_ _) | (with_reducible refine Kd.C_drew ?_))); (case side2 => exact (Kd.R_reads' HO164.out).2.1); rintro e w' ⟨rfl, ⟨nd, rfl⟩⟩))
         go_meet
         case rel => exact ⟨_, ((t181 != t182)), (by first | rfl | (simp; done) | (simp [*]; done)), H', ⟨by first | omega | exact Nat.le_refl _⟩, ⟨zqC HO164.out⟩, ⟨by (with_reducible repeat (first | apply Kd.R_alloc | apply Kd.R_drewN | apply Kd.R_drew)); exact Kd.R_mono HO176.out (fun _ hk => hk.2)⟩, ⟨by (with_reducible repeat (first | apply Kd.R_alloc | apply Kd.R_drewN | apply Kd.R_drew)); exact Kd.R_mono HO180.out (fun _ hk => hk.2)⟩, ⟨zqA HB.out⟩⟩
        ·
         rw [if_neg c27] at H
         have c27b0 : (t178 == t168) = false := beq_eq_false_iff_ne.mpr c27
         have c27b1 : (t178 != t168) = true := bne_iff_ne.mpr c27
         have H' := Aside0.mk H
         clear H
         go_wp2
         go_meet
         case rel => exact ⟨_, (true), (by first | rfl | (simp; done) | (simp [*]; done)), H', ⟨by first | omega | exact Nat.le_refl _⟩, ⟨zqC HO164.out⟩, ⟨by (with_reducible repeat (first | apply Kd.R_alloc | apply Kd.R_drewN | apply Kd.R_drew)); exact Kd.R_mono HO176.out (fun _ hk => hk.2)⟩, ⟨by (with_reducible repeat (first | apply Kd.R_alloc | apply Kd.R_drewN | apply Kd.R_drew)); exact Kd.R_mono HO180.out (fun _ hk => hk.2)⟩, ⟨zqA HB.out⟩⟩
       ·
        rw [if_neg c26] at H
        have c26b0 : (t174 == t168) = false := beq_eq_false_iff_ne.mpr c26
        have c26b1 : (t174 != t168) = true := bne_iff_ne.mpr c26
        have H' := Aside0.mk H
        clear H
        go_wp2
        go_meet
        case rel => exact ⟨_, (true), (by first | rfl | (simp; done) | (simp [*]; done)), H', ⟨by first | omega | exact Nat.le_refl _⟩, ⟨zqC HO164.out⟩, ⟨by (with_reducible repeat (first | apply Kd.R_alloc | apply Kd.R_drewN | apply Kd.R_drew)); exact Kd.R_mono HO176.out (fun _ hk => hk.2)⟩, ⟨by (with_reducible repeat (first | apply Kd.R_alloc | apply Kd.R_drewN | apply Kd.R_drew)); exact Kd.R_mono HO180.out (fun _ hk => hk.2)⟩, ⟨zqA HB.out⟩⟩
      ·
       rw [if_neg c25] at H
       have c25b0 : (t170 == t172) = false := beq_eq_false_iff_ne.mpr c25
       have c25b1 : (t170 != t172) = true := bne_iff_ne.mpr c25
       have H' := Aside0.mk H
       clear H
       go_wp2
       go_meet
       case rel => exact ⟨_, (true), (by first | rfl | (simp; done) | (simp [*]; done)), H', ⟨by first | omega | exact Nat.le_refl _⟩, ⟨zqC HO164.out⟩, ⟨by (with_reducible repeat (first | apply Kd.R_alloc | apply Kd.R_drewN | apply Kd.R_drew)); exact Kd.R_mono HO176.out (fun _ hk => hk.2)⟩, ⟨by (with_reducible repeat (first | apply Kd.R_alloc | apply Kd.R_drewN | apply Kd.R_drew)); exact Kd.R_mono HO180.out (fun _ hk => hk.2)⟩, ⟨zqA HB.out⟩⟩
     ·
      rw [if_neg c24] at H
      have c24b0 : (t169 == t171) = false := beq_eq_false_iff_ne.mpr c24
      have c24b1 : (t169 != t171) = true := bne_iff_ne.mpr c24
      have H' := Aside0.mk H
      clear H
      go_wp2
      go_meet
      case rel => exact ⟨_, (true), (by first | rfl | (simp; done) | (simp [*]; done)), H', ⟨by first | omega | exact Nat.le_refl _⟩, ⟨zqC HO164.out⟩, ⟨by (with_reducible repeat (first | apply Kd.R_alloc | apply Kd.R_drewN | apply Kd.R_drew)); exact Kd.R_mono HO176.out (fun _ hk => hk.2)⟩, ⟨by (with_reducible repeat (first | apply Kd.R_alloc | apply Kd.R_drewN | apply Kd.R_drew)); exact Kd.R_mono HO180.out (fun _ hk => hk.2)⟩, ⟨zqA HB.out⟩⟩
    ·
     rw [if_neg c23] at H
     have c23b0 : (t166 == t168) = false := beq_eq_false_iff_ne.mpr c23
     have c23b1 : (t166 != t168) = true := bne_iff_ne.mpr c23
     have H' := Aside0.mk H
     clear H
     go_wp2
     go_meet
     case rel => exact ⟨_, (true), (by first | rfl | (simp; done) | (simp [*]; done)), H', ⟨by first | omega | exact Nat.le_refl _⟩, ⟨zqC HO164.out⟩, ⟨by (with_reducible repeat (first | apply Kd.R_alloc | apply Kd.R_drewN | apply Kd.R_drew)); exact Kd.R_mono HO176.out (fun _ hk => hk.2)⟩, ⟨by (with_reducible repeat (first | apply Kd.R_alloc | apply Kd.R_drewN | apply Kd.R_drew)); exact Kd.R_mono HO180.out (fun _ hk => hk.2)⟩, ⟨zqA HB.out⟩⟩
   ·
    rw [if_neg c22] at H
    have c22b0 : (t165 == t167) = false := beq_eq_false_iff_ne.mpr c22
    have c22b1 : (t165 != t167) = true := bne_iff_ne.mpr c22
    (first | rw [c22b0] | rw [c22b1] | (simp only [i64_w, i32_w]; rw [c22b0]) | skip)
    have H' := Aside0.mk H
    clear H
    go_wp2
    go_meet
    case rel => exact ⟨_, (true), (by first | rfl | (simp; done) | (simp [*]; done)), H', ⟨by first | omega | exact Nat.le_refl _⟩, ⟨zqC HO164.out⟩, ⟨by (with_reducible repeat (first | apply Kd.R_alloc | apply Kd.R_drewN | apply Kd.R_drew)); exact Kd.R_mono HO176.out (fun _ hk => hk.2)⟩, ⟨by (with_reducible repeat (first | apply Kd.R_alloc | apply Kd.R_drewN | apply Kd.R_drew)); exact Kd.R_mono HO180.out (fun _ hk => hk.2)⟩, ⟨zqA HB.out⟩⟩
  case rest =>
   clear HC13
   try clear c1
   try clear c2
   try clear p2
   try clear c3
   try clear c3b0
   try clear c3b1
   try clear c15
   try clear c16
   try clear c17
   try clear c18
   try clear c19
   try clear c20
   try clear c21
   try clear c22
   try clear c22b0
   try clear c22b1
   try clear c23
   try clear c23b0
   try clear c23b1
   try clear c24
   try clear c24b0
   try clear c24b1
   try clear c25
   try clear c25b0
   try clear c25b1
   try clear c26
   try clear c26b0
   try clear c26b1
   try clear c27
   try clear c27b0
   try clear c27b1
   obtain ⟨kq, x100_12, rfl, HA, HJ12, HO_5, HO_14, HO_16, HB⟩ := hcut
   cases kq with
   | zero => exact absurd HA.out (by simp [pianolalaw04_PumpBounds.j0])
   | succ kj12 =>
    have H := HA.out
    clear HA
    simp only [pianolalaw04_PumpBounds.j0] at H
    by_cases c31 : x100_12 = true
    ·
     subst c31
     have H1 : (some false) = some r := by rw [if_pos rfl] at H; exact H
     clear H
     have H := H1
     clear H1
     obtain rfl := Option.some.inj H
     go_wp2
     go_ret
     exact ⟨by first | rfl | (simp [errW_none, errW_some] <;> rfl) | (simp [*, errW_none, errW_some] <;> rfl), zqA HB.out⟩
    ·
     replace c31 := Bool.eq_false_iff.mpr c31
     subst c31
     have H1 : (if t168 = 0 then ((pianolaref04_Chosen.f t162 t173).bind fun bt183 => ((pianolaref04_Chosen.f t162 t177).bind fun bt186 => (if bt183.2.2 = true then (if bt186.2.2 = true then (if bt183.1 ≥ a1 then (if bt183.2.1 = t167 then (if bt186.1 ≤ a1 then (if bt186.2.1 = t171 then ((pianolalaw04_works.f).bind fun t189 => (some t189)) else (some false)) else (some false)) else (some false)) else (some false)) else (some false)) else (some false)))) else (if (t173.length : Int) = 0 then (if (t177.length : Int) = 0 then ((pianolalaw04_works.f).bind fun t190 => (some t190)) else (some false)) else (some false))) = some r := by rw [if_neg (show ¬ (false = true) by decide)] at H; exact H
     clear H
     have H := H1
     clear H1
     by_cases c32 : t168 = 0
     ·
      rw [if_pos c32] at H
      have c32b0 : (t168 == 0) = true := beq_iff_eq.mpr c32
      have c32b1 : (t168 != 0) = false := bne_eq_false_iff_eq.mpr c32
      clear c32
      replace H := Option.bind_eq_some_iff.mp H
      obtain ⟨⟨t183, t184, t185⟩, A330, H⟩ := H
      replace H : ((pianolaref04_Chosen.f t162 t177).bind fun bt186 => (if t185 = true then (if bt186.2.2 = true then (if t183 ≥ a1 then (if t184 = t167 then (if bt186.1 ≤ a1 then (if bt186.2.1 = t171 then ((pianolalaw04_works.f).bind fun t189 => (some t189)) else (some false)) else (some false)) else (some false)) else (some false)) else (some false)) else (some false))) = some r := H
      have A33 := Aside0.mk A330
      clear A330
      replace H := Option.bind_eq_some_iff.mp H
      obtain ⟨⟨t186, t187, t188⟩, A340, H⟩ := H
      replace H : (if t185 = true then (if t188 = true then (if t183 ≥ a1 then (if t184 = t167 then (if t186 ≤ a1 then (if t187 = t171 then ((pianolalaw04_works.f).bind fun t189 => (some t189)) else (some false)) else (some false)) else (some false)) else (some false)) else (some false)) else (some false)) = some r := H
      have A34 := Aside0.mk A340
      clear A340
      by_cases c35 : t185 = true
      ·
       subst c35
       have H1 : (if t188 = true then (if t183 ≥ a1 then (if t184 = t167 then (if t186 ≤ a1 then (if t187 = t171 then ((pianolalaw04_works.f).bind fun t189 => (some t189)) else (some false)) else (some false)) else (some false)) else (some false)) else (some false)) = some r := by rw [if_pos rfl] at H; exact H
       clear H
       have H := H1
       clear H1
       by_cases c36 : t188 = true
       ·
        subst c36
        have H1 : (if t183 ≥ a1 then (if t184 = t167 then (if t186 ≤ a1 then (if t187 = t171 then ((pianolalaw04_works.f).bind fun t189 => (some t189)) else (some false)) else (some false)) else (some false)) else (some false)) = some r := by rw [if_pos rfl] at H; exact H
        clear H
        have H := H1
        clear H1
        by_cases c37 : t183 ≥ a1
        ·
         rw [if_pos c37] at H
         have c37b0 : decide (a1 ≤ t183) = true := decide_eq_true c37
         clear c37
         by_cases c38 : t184 = t167
         ·
          rw [if_pos c38] at H
          have c38b0 : (t184 == t167) = true := beq_iff_eq.mpr c38
          have c38b1 : (t184 != t167) = false := bne_eq_false_iff_eq.mpr c38
          clear c38
          by_cases c39 : t186 ≤ a1
          ·
           rw [if_pos c39] at H
           have c39b0 : decide (t186 ≤ a1) = true := decide_eq_true c39
           clear c39
           by_cases c40 : t187 = t171
           ·
            rw [if_pos c40] at H
            have c40b0 : (t187 == t171) = true := beq_iff_eq.mpr c40
            have c40b1 : (t187 != t171) = false := bne_eq_false_iff_eq.mpr c40
            clear c40
            replace H := Option.bind_eq_some_iff.mp H
            obtain ⟨t189, A410, H⟩ := H
            replace H : (some t189) = some r := H
            have A41 := Aside0.mk A410
            clear A410
            obtain rfl := Option.some.inj H
            obtain ⟨Ao42, co42, eo42⟩ := Kd.R_slice HO_14.out
            subst eo42
            go_wp2_with (first | ((with_reducible refine gate_callee (f := 25) rfl ?_); refine goesL_ (some 117) rfl rfl Try.func25 (by kernel_rfl) rfl #[.slice Ao16 t162.length co16, .slice Ao42 t173.length co42] rfl (by (try simp only [List.map_toArray, List.map_cons, List.map_nil]); first | done | rfl | (simp only [List.length_drop, List.length_take]; rfl)) ?_; (with_reducible refine (pianolaref04_Chosen.calls _ _ t162 _ _ t173 t183 t184 true _ ?side1 ?side2 ?side3 ?side4 A33.out).mono ?_); (case side1 => repeat (first | exact (Kd.R_reads' HO_5.out).2.2 | (with_reducible refine Kd.C_alloc ?_ _) | (with_reducible refine Kd.C_drewN ?_ _) | (with_reducible refine Kd.C_drew ?_))); (case side2 => exact (Kd.R_reads' HO_5.out).2.1); (case side3 => repeat (first | exact (Kd.R_reads' HO_14.out).2.2 | (with_reducible refine Kd.C_alloc ?_ _) | (with_reducible refine Kd.C_drewN ?_ _) | (with_reducible refine Kd.C_drew ?_))); (case side4 => exact (Kd.R_reads' HO_14.out).2.1); rintro e w' ⟨rfl, ⟨nd, rfl⟩⟩; refine ⟨_, rfl, ?_⟩; obtain ⟨Ao43, co43, eo43⟩ := Kd.R_slice HO_16.out; subst eo43) | ((with_reducible refine gate_callee (f := 25) rfl ?_); refine goesL_ (some 124) rfl rfl Try.func25 (by kernel_rfl) rfl #[.slice Ao16 t162.length co16, .slice Ao43 t177.length co43] rfl (by (try simp only [List.map_toArray, List.map_cons, List.map_nil]); first | done | rfl | (simp only [List.length_drop, List.length_take]; rfl)) ?_; (with_reducible refine (pianolaref04_Chosen.calls _ _ t162 _ _ t177 t186 t187 true _ ?side1 ?side2 ?side3 ?side4 A34.out).mono ?_); (case side1 => repeat (first | exact (Kd.R_reads' HO_5.out).2.2 | (with_reducible refine Kd.C_alloc ?_ _) | (with_reducible refine Kd.C_drewN ?_ _) | (with_reducible refine Kd.C_drew ?_))); (case side2 => exact (Kd.R_reads' HO_5.out).2.1); (case side3 => repeat (first | exact (Kd.R_reads' HO_16.out).2.2 | (with_reducible refine Kd.C_alloc ?_ _) | (with_reducible refine Kd.C_drewN ?_ _) | (with_reducible refine Kd.C_drew ?_))); (case side4 => exact (Kd.R_reads' HO_16.out).2.1); rintro e w' ⟨rfl, ⟨nd, rfl⟩⟩; refine ⟨_, rfl, ?_⟩) | (go_at_call 15; (with_reducible refine (pianolalaw04_works.calls  t189 _ A41.out).mono ?_); rintro e w44 ⟨rfl, hb⟩; have n0_ := Aside0.mk (Kd.R_below (zqC HO_5.out) hb); have n1_ := Aside0.mk (Kd.R_below (zqC HO_14.out) hb); have n2_ := Aside0.mk (Kd.R_below (zqC HO_16.out) hb); have n3_ := Aside0.mk (below_step (zqA HB.out) hb); clear HO_5; clear HO_14; clear HO_16; clear HB; have HO_5 := n0_; have HO_14 := n1_; have HO_16 := n2_; have HB := n3_; clear n0_ n1_ n2_ n3_; (try clear hb); (try clear hb2); (try clear hk); (try clear hi)))
            go_ret
            exact ⟨by first | rfl | (simp [errW_none, errW_some] <;> rfl) | (simp [*, errW_none, errW_some] <;> rfl), zqA HB.out⟩
           ·
            rw [if_neg c40] at H
            have c40b0 : (t187 == t171) = false := beq_eq_false_iff_ne.mpr c40
            have c40b1 : (t187 != t171) = true := bne_iff_ne.mpr c40
            obtain rfl := Option.some.inj H
            obtain ⟨Ao45, co45, eo45⟩ := Kd.R_slice HO_14.out
            subst eo45
            go_wp2_with (first | ((with_reducible refine gate_callee (f := 25) rfl ?_); refine goesL_ (some 117) rfl rfl Try.func25 (by kernel_rfl) rfl #[.slice Ao16 t162.length co16, .slice Ao45 t173.length co45] rfl (by (try simp only [List.map_toArray, List.map_cons, List.map_nil]); first | done | rfl | (simp only [List.length_drop, List.length_take]; rfl)) ?_; (with_reducible refine (pianolaref04_Chosen.calls _ _ t162 _ _ t173 t183 t184 true _ ?side1 ?side2 ?side3 ?side4 A33.out).mono ?_); (case side1 => repeat (first | exact (Kd.R_reads' HO_5.out).2.2 | (with_reducible refine Kd.C_alloc ?_ _) | (with_reducible refine Kd.C_drewN ?_ _) | (with_reducible refine Kd.C_drew ?_))); (case side2 => exact (Kd.R_reads' HO_5.out).2.1); (case side3 => repeat (first | exact (Kd.R_reads' HO_14.out).2.2 | (with_reducible refine Kd.C_alloc ?_ _) | (with_reducible refine Kd.C_drewN ?_ _) | (with_reducible refine Kd.C_drew ?_))); (case side4 => exact (Kd.R_reads' HO_14.out).2.1); rintro e w' ⟨rfl, ⟨nd, rfl⟩⟩; refine ⟨_, rfl, ?_⟩; obtain ⟨Ao46, co46, eo46⟩ := Kd.R_slice HO_16.out; subst eo46) | ((with_reducible refine gate_callee (f := 25) rfl ?_); refine goesL_ (some 124) rfl rfl Try.func25 (by kernel_rfl) rfl #[.slice Ao16 t162.length co16, .slice Ao46 t177.length co46] rfl (by (try simp only [List.map_toArray, List.map_cons, List.map_nil]); first | done | rfl | (simp only [List.length_drop, List.length_take]; rfl)) ?_; (with_reducible refine (pianolaref04_Chosen.calls _ _ t162 _ _ t177 t186 t187 true _ ?side1 ?side2 ?side3 ?side4 A34.out).mono ?_); (case side1 => repeat (first | exact (Kd.R_reads' HO_5.out).2.2 | (with_reducible refine Kd.C_alloc ?_ _) | (with_reducible refine Kd.C_drewN ?_ _) | (with_reducible refine Kd.C_drew ?_))); (case side2 => exact (Kd.R_reads' HO_5.out).2.1); (case side3 => repeat (first | exact (Kd.R_reads' HO_16.out).2.2 | (with_reducible refine Kd.C_alloc ?_ _) | (with_reducible refine Kd.C_drewN ?_ _) | (with_reducible refine Kd.C_drew ?_))); (case side4 => exact (Kd.R_reads' HO_16.out).2.1); rintro e w' ⟨rfl, ⟨nd, rfl⟩⟩; refine ⟨_, rfl, ?_⟩))
            go_ret
            exact ⟨by first | rfl | (simp [errW_none, errW_some] <;> rfl) | (simp [*, errW_none, errW_some] <;> rfl), zqA HB.out⟩
          ·
           rw [if_neg c39] at H
           have c39b0 : decide (t186 ≤ a1) = false := decide_eq_false c39
           clear c39
           obtain rfl := Option.some.inj H
           obtain ⟨Ao47, co47, eo47⟩ := Kd.R_slice HO_14.out
           subst eo47
           go_wp2_with (first | ((with_reducible refine gate_callee (f := 25) rfl ?_); refine goesL_ (some 117) rfl rfl Try.func25 (by kernel_rfl) rfl #[.slice Ao16 t162.length co16, .slice Ao47 t173.length co47] rfl (by (try simp only [List.map_toArray, List.map_cons, List.map_nil]); first | done | rfl | (simp only [List.length_drop, List.length_take]; rfl)) ?_; (with_reducible refine (pianolaref04_Chosen.calls _ _ t162 _ _ t173 t183 t184 true _ ?side1 ?side2 ?side3 ?side4 A33.out).mono ?_); (case side1 => repeat (first | exact (Kd.R_reads' HO_5.out).2.2 | (with_reducible refine Kd.C_alloc ?_ _) | (with_reducible refine Kd.C_drewN ?_ _) | (with_reducible refine Kd.C_drew ?_))); (case side2 => exact (Kd.R_reads' HO_5.out).2.1); (case side3 => repeat (first | exact (Kd.R_reads' HO_14.out).2.2 | (with_reducible refine Kd.C_alloc ?_ _) | (with_reducible refine Kd.C_drewN ?_ _) | (with_reducible refine Kd.C_drew ?_))); (case side4 => exact (Kd.R_reads' HO_14.out).2.1); rintro e w' ⟨rfl, ⟨nd, rfl⟩⟩; refine ⟨_, rfl, ?_⟩; obtain ⟨Ao48, co48, eo48⟩ := Kd.R_slice HO_16.out; subst eo48) | ((with_reducible refine gate_callee (f := 25) rfl ?_); refine goesL_ (some 124) rfl rfl Try.func25 (by kernel_rfl) rfl #[.slice Ao16 t162.length co16, .slice Ao48 t177.length co48] rfl (by (try simp only [List.map_toArray, List.map_cons, List.map_nil]); first | done | rfl | (simp only [List.length_drop, List.length_take]; rfl)) ?_; (with_reducible refine (pianolaref04_Chosen.calls _ _ t162 _ _ t177 t186 t187 true _ ?side1 ?side2 ?side3 ?side4 A34.out).mono ?_); (case side1 => repeat (first | exact (Kd.R_reads' HO_5.out).2.2 | (with_reducible refine Kd.C_alloc ?_ _) | (with_reducible refine Kd.C_drewN ?_ _) | (with_reducible refine Kd.C_drew ?_))); (case side2 => exact (Kd.R_reads' HO_5.out).2.1); (case side3 => repeat (first | exact (Kd.R_reads' HO_16.out).2.2 | (with_reducible refine Kd.C_alloc ?_ _) | (with_reducible refine Kd.C_drewN ?_ _) | (with_reducible refine Kd.C_drew ?_))); (case side4 => exact (Kd.R_reads' HO_16.out).2.1); rintro e w' ⟨rfl, ⟨nd, rfl⟩⟩; refine ⟨_, rfl, ?_⟩))
           go_ret
           exact ⟨by first | rfl | (simp [errW_none, errW_some] <;> rfl) | (simp [*, errW_none, errW_some] <;> rfl), zqA HB.out⟩
         ·
          rw [if_neg c38] at H
          have c38b0 : (t184 == t167) = false := beq_eq_false_iff_ne.mpr c38
          have c38b1 : (t184 != t167) = true := bne_iff_ne.mpr c38
          obtain rfl := Option.some.inj H
          obtain ⟨Ao49, co49, eo49⟩ := Kd.R_slice HO_14.out
          subst eo49
          go_wp2_with (first | ((with_reducible refine gate_callee (f := 25) rfl ?_); refine goesL_ (some 117) rfl rfl Try.func25 (by kernel_rfl) rfl #[.slice Ao16 t162.length co16, .slice Ao49 t173.length co49] rfl (by (try simp only [List.map_toArray, List.map_cons, List.map_nil]); first | done | rfl | (simp only [List.length_drop, List.length_take]; rfl)) ?_; (with_reducible refine (pianolaref04_Chosen.calls _ _ t162 _ _ t173 t183 t184 true _ ?side1 ?side2 ?side3 ?side4 A33.out).mono ?_); (case side1 => repeat (first | exact (Kd.R_reads' HO_5.out).2.2 | (with_reducible refine Kd.C_alloc ?_ _) | (with_reducible refine Kd.C_drewN ?_ _) | (with_reducible refine Kd.C_drew ?_))); (case side2 => exact (Kd.R_reads' HO_5.out).2.1); (case side3 => repeat (first | exact (Kd.R_reads' HO_14.out).2.2 | (with_reducible refine Kd.C_alloc ?_ _) | (with_reducible refine Kd.C_drewN ?_ _) | (with_reducible refine Kd.C_drew ?_))); (case side4 => exact (Kd.R_reads' HO_14.out).2.1); rintro e w' ⟨rfl, ⟨nd, rfl⟩⟩; refine ⟨_, rfl, ?_⟩; obtain ⟨Ao50, co50, eo50⟩ := Kd.R_slice HO_16.out; subst eo50) | ((with_reducible refine gate_callee (f := 25) rfl ?_); refine goesL_ (some 124) rfl rfl Try.func25 (by kernel_rfl) rfl #[.slice Ao16 t162.length co16, .slice Ao50 t177.length co50] rfl (by (try simp only [List.map_toArray, List.map_cons, List.map_nil]); first | done | rfl | (simp only [List.length_drop, List.length_take]; rfl)) ?_; (with_reducible refine (pianolaref04_Chosen.calls _ _ t162 _ _ t177 t186 t187 true _ ?side1 ?side2 ?side3 ?side4 A34.out).mono ?_); (case side1 => repeat (first | exact (Kd.R_reads' HO_5.out).2.2 | (with_reducible refine Kd.C_alloc ?_ _) | (with_reducible refine Kd.C_drewN ?_ _) | (with_reducible refine Kd.C_drew ?_))); (case side2 => exact (Kd.R_reads' HO_5.out).2.1); (case side3 => repeat (first | exact (Kd.R_reads' HO_16.out).2.2 | (with_reducible refine Kd.C_alloc ?_ _) | (with_reducible refine Kd.C_drewN ?_ _) | (with_reducible refine Kd.C_drew ?_))); (case side4 => exact (Kd.R_reads' HO_16.out).2.1); rintro e w' ⟨rfl, ⟨nd, rfl⟩⟩; refine ⟨_, rfl, ?_⟩))
          go_ret
          exact ⟨by first | rfl | (simp [errW_none, errW_some] <;> rfl) | (simp [*, errW_none, errW_some] <;> rfl), zqA HB.out⟩
        ·
         rw [if_neg c37] at H
         have c37b0 : decide (a1 ≤ t183) = false := decide_eq_false c37
         clear c37
         obtain rfl := Option.some.inj H
         obtain ⟨Ao51, co51, eo51⟩ := Kd.R_slice HO_14.out
         subst eo51
         go_wp2_with (first | ((with_reducible refine gate_callee (f := 25) rfl ?_); refine goesL_ (some 117) rfl rfl Try.func25 (by kernel_rfl) rfl #[.slice Ao16 t162.length co16, .slice Ao51 t173.length co51] rfl (by (try simp only [List.map_toArray, List.map_cons, List.map_nil]); first | done | rfl | (simp only [List.length_drop, List.length_take]; rfl)) ?_; (with_reducible refine (pianolaref04_Chosen.calls _ _ t162 _ _ t173 t183 t184 true _ ?side1 ?side2 ?side3 ?side4 A33.out).mono ?_); (case side1 => repeat (first | exact (Kd.R_reads' HO_5.out).2.2 | (with_reducible refine Kd.C_alloc ?_ _) | (with_reducible refine Kd.C_drewN ?_ _) | (with_reducible refine Kd.C_drew ?_))); (case side2 => exact (Kd.R_reads' HO_5.out).2.1); (case side3 => repeat (first | exact (Kd.R_reads' HO_14.out).2.2 | (with_reducible refine Kd.C_alloc ?_ _) | (with_reducible refine Kd.C_drewN ?_ _) | (with_reducible refine Kd.C_drew ?_))); (case side4 => exact (Kd.R_reads' HO_14.out).2.1); rintro e w' ⟨rfl, ⟨nd, rfl⟩⟩; refine ⟨_, rfl, ?_⟩; obtain ⟨Ao52, co52, eo52⟩ := Kd.R_slice HO_16.out; subst eo52) | ((with_reducible refine gate_callee (f := 25) rfl ?_); refine goesL_ (some 124) rfl rfl Try.func25 (by kernel_rfl) rfl #[.slice Ao16 t162.length co16, .slice Ao52 t177.length co52] rfl (by (try simp only [List.map_toArray, List.map_cons, List.map_nil]); first | done | rfl | (simp only [List.length_drop, List.length_take]; rfl)) ?_; (with_reducible refine (pianolaref04_Chosen.calls _ _ t162 _ _ t177 t186 t187 true _ ?side1 ?side2 ?side3 ?side4 A34.out).mono ?_); (case side1 => repeat (first | exact (Kd.R_reads' HO_5.out).2.2 | (with_reducible refine Kd.C_alloc ?_ _) | (with_reducible refine Kd.C_drewN ?_ _) | (with_reducible refine Kd.C_drew ?_))); (case side2 => exact (Kd.R_reads' HO_5.out).2.1); (case side3 => repeat (first | exact (Kd.R_reads' HO_16.out).2.2 | (with_reducible refine Kd.C_alloc ?_ _) | (with_reducible refine Kd.C_drewN ?_ _) | (with_reducible refine Kd.C_drew ?_))); (case side4 => exact (Kd.R_reads' HO_16.out).2.1); rintro e w' ⟨rfl, ⟨nd, rfl⟩⟩; refine ⟨_, rfl, ?_⟩))
         go_ret
         exact ⟨by first | rfl | (simp [errW_none, errW_some] <;> rfl) | (simp [*, errW_none, errW_some] <;> rfl), zqA HB.out⟩
       ·
        replace c36 := Bool.eq_false_iff.mpr c36
        subst c36
        have H1 : (some false) = some r := by rw [if_neg (show ¬ (false = true) by decide)] at H; exact H
        clear H
        have H := H1
        clear H1
        obtain rfl := Option.some.inj H
        obtain ⟨Ao53, co53, eo53⟩ := Kd.R_slice HO_14.out
        subst eo53
        go_wp2_with (first | ((with_reducible refine gate_callee (f := 25) rfl ?_); refine goesL_ (some 117) rfl rfl Try.func25 (by kernel_rfl) rfl #[.slice Ao16 t162.length co16, .slice Ao53 t173.length co53] rfl (by (try simp only [List.map_toArray, List.map_cons, List.map_nil]); first | done | rfl | (simp only [List.length_drop, List.length_take]; rfl)) ?_; (with_reducible refine (pianolaref04_Chosen.calls _ _ t162 _ _ t173 t183 t184 true _ ?side1 ?side2 ?side3 ?side4 A33.out).mono ?_); (case side1 => repeat (first | exact (Kd.R_reads' HO_5.out).2.2 | (with_reducible refine Kd.C_alloc ?_ _) | (with_reducible refine Kd.C_drewN ?_ _) | (with_reducible refine Kd.C_drew ?_))); (case side2 => exact (Kd.R_reads' HO_5.out).2.1); (case side3 => repeat (first | exact (Kd.R_reads' HO_14.out).2.2 | (with_reducible refine Kd.C_alloc ?_ _) | (with_reducible refine Kd.C_drewN ?_ _) | (with_reducible refine Kd.C_drew ?_))); (case side4 => exact (Kd.R_reads' HO_14.out).2.1); rintro e w' ⟨rfl, ⟨nd, rfl⟩⟩; refine ⟨_, rfl, ?_⟩; obtain ⟨Ao54, co54, eo54⟩ := Kd.R_slice HO_16.out; subst eo54) | ((with_reducible refine gate_callee (f := 25) rfl ?_); refine goesL_ (some 124) rfl rfl Try.func25 (by kernel_rfl) rfl #[.slice Ao16 t162.length co16, .slice Ao54 t177.length co54] rfl (by (try simp only [List.map_toArray, List.map_cons, List.map_nil]); first | done | rfl | (simp only [List.length_drop, List.length_take]; rfl)) ?_; (with_reducible refine (pianolaref04_Chosen.calls _ _ t162 _ _ t177 t186 t187 false _ ?side1 ?side2 ?side3 ?side4 A34.out).mono ?_); (case side1 => repeat (first | exact (Kd.R_reads' HO_5.out).2.2 | (with_reducible refine Kd.C_alloc ?_ _) | (with_reducible refine Kd.C_drewN ?_ _) | (with_reducible refine Kd.C_drew ?_))); (case side2 => exact (Kd.R_reads' HO_5.out).2.1); (case side3 => repeat (first | exact (Kd.R_reads' HO_16.out).2.2 | (with_reducible refine Kd.C_alloc ?_ _) | (with_reducible refine Kd.C_drewN ?_ _) | (with_reducible refine Kd.C_drew ?_))); (case side4 => exact (Kd.R_reads' HO_16.out).2.1); rintro e w' ⟨rfl, ⟨nd, rfl⟩⟩; refine ⟨_, rfl, ?_⟩))
        go_ret
        exact ⟨by first | rfl | (simp [errW_none, errW_some] <;> rfl) | (simp [*, errW_none, errW_some] <;> rfl), zqA HB.out⟩
      ·
       replace c35 := Bool.eq_false_iff.mpr c35
       subst c35
       have H1 : (some false) = some r := by rw [if_neg (show ¬ (false = true) by decide)] at H; exact H
       clear H
       have H := H1
       clear H1
       obtain rfl := Option.some.inj H
       obtain ⟨Ao55, co55, eo55⟩ := Kd.R_slice HO_14.out
       subst eo55
       go_wp2_with (first | ((with_reducible refine gate_callee (f := 25) rfl ?_); refine goesL_ (some 117) rfl rfl Try.func25 (by kernel_rfl) rfl #[.slice Ao16 t162.length co16, .slice Ao55 t173.length co55] rfl (by (try simp only [List.map_toArray, List.map_cons, List.map_nil]); first | done | rfl | (simp only [List.length_drop, List.length_take]; rfl)) ?_; (with_reducible refine (pianolaref04_Chosen.calls _ _ t162 _ _ t173 t183 t184 false _ ?side1 ?side2 ?side3 ?side4 A33.out).mono ?_); (case side1 => repeat (first | exact (Kd.R_reads' HO_5.out).2.2 | (with_reducible refine Kd.C_alloc ?_ _) | (with_reducible refine Kd.C_drewN ?_ _) | (with_reducible refine Kd.C_drew ?_))); (case side2 => exact (Kd.R_reads' HO_5.out).2.1); (case side3 => repeat (first | exact (Kd.R_reads' HO_14.out).2.2 | (with_reducible refine Kd.C_alloc ?_ _) | (with_reducible refine Kd.C_drewN ?_ _) | (with_reducible refine Kd.C_drew ?_))); (case side4 => exact (Kd.R_reads' HO_14.out).2.1); rintro e w' ⟨rfl, ⟨nd, rfl⟩⟩; refine ⟨_, rfl, ?_⟩; obtain ⟨Ao56, co56, eo56⟩ := Kd.R_slice HO_16.out; subst eo56) | ((with_reducible refine gate_callee (f := 25) rfl ?_); refine goesL_ (some 124) rfl rfl Try.func25 (by kernel_rfl) rfl #[.slice Ao16 t162.length co16, .slice Ao56 t177.length co56] rfl (by (try simp only [List.map_toArray, List.map_cons, List.map_nil]); first | done | rfl | (simp only [List.length_drop, List.length_take]; rfl)) ?_; (with_reducible refine (pianolaref04_Chosen.calls _ _ t162 _ _ t177 t186 t187 t188 _ ?side1 ?side2 ?side3 ?side4 A34.out).mono ?_); (case side1 => repeat (first | exact (Kd.R_reads' HO_5.out).2.2 | (with_reducible refine Kd.C_alloc ?_ _) | (with_reducible refine Kd.C_drewN ?_ _) | (with_reducible refine Kd.C_drew ?_))); (case side2 => exact (Kd.R_reads' HO_5.out).2.1); (case side3 => repeat (first | exact (Kd.R_reads' HO_16.out).2.2 | (with_reducible refine Kd.C_alloc ?_ _) | (with_reducible refine Kd.C_drewN ?_ _) | (with_reducible refine Kd.C_drew ?_))); (case side4 => exact (Kd.R_reads' HO_16.out).2.1); rintro e w' ⟨rfl, ⟨nd, rfl⟩⟩; refine ⟨_, rfl, ?_⟩))
       go_ret
       exact ⟨by first | rfl | (simp [errW_none, errW_some] <;> rfl) | (simp [*, errW_none, errW_some] <;> rfl), zqA HB.out⟩
     ·
      rw [if_neg c32] at H
      have c32b0 : (t168 == 0) = false := beq_eq_false_iff_ne.mpr c32
      have c32b1 : (t168 != 0) = true := bne_iff_ne.mpr c32
      by_cases c57 : (t173.length : Int) = 0
      ·
       rw [if_pos c57] at H
       have c57b0 : ((t173.length : Int) == 0) = true := beq_iff_eq.mpr c57
       have c57b1 : ((t173.length : Int) != 0) = false := bne_eq_false_iff_eq.mpr c57
       clear c57
       by_cases c58 : (t177.length : Int) = 0
       ·
        rw [if_pos c58] at H
        have c58b0 : ((t177.length : Int) == 0) = true := beq_iff_eq.mpr c58
        have c58b1 : ((t177.length : Int) != 0) = false := bne_eq_false_iff_eq.mpr c58
        clear c58
        replace H := Option.bind_eq_some_iff.mp H
        obtain ⟨t190, A590, H⟩ := H
        replace H : (some t190) = some r := H
        have A59 := Aside0.mk A590
        clear A590
        obtain rfl := Option.some.inj H
        obtain ⟨Ao60, co60, eo60⟩ := Kd.R_slice HO_14.out
        subst eo60
        obtain ⟨Ao61, co61, eo61⟩ := Kd.R_slice HO_16.out
        subst eo61
        go_wp2_with (first | (go_at_call 15; (with_reducible refine (pianolalaw04_works.calls  t190 _ A59.out).mono ?_); rintro e w62 ⟨rfl, hb⟩; have n0_ := Aside0.mk (Kd.R_below (zqC HO_5.out) hb); have n1_ := Aside0.mk (Kd.R_below (zqC HO_14.out) hb); have n2_ := Aside0.mk (Kd.R_below (zqC HO_16.out) hb); have n3_ := Aside0.mk (below_step (zqA HB.out) hb); clear HO_5; clear HO_14; clear HO_16; clear HB; have HO_5 := n0_; have HO_14 := n1_; have HO_16 := n2_; have HB := n3_; clear n0_ n1_ n2_ n3_; (try clear hb); (try clear hb2); (try clear hk); (try clear hi)))
        go_ret
        exact ⟨by first | rfl | (simp [errW_none, errW_some] <;> rfl) | (simp [*, errW_none, errW_some] <;> rfl), zqA HB.out⟩
       ·
        rw [if_neg c58] at H
        have c58b0 : ((t177.length : Int) == 0) = false := beq_eq_false_iff_ne.mpr c58
        have c58b1 : ((t177.length : Int) != 0) = true := bne_iff_ne.mpr c58
        have c58b2 : ¬ (t177 = []) := fun h_ => c58 (by rw [h_]; rfl)
        obtain rfl := Option.some.inj H
        obtain ⟨Ao63, co63, eo63⟩ := Kd.R_slice HO_14.out
        subst eo63
        obtain ⟨Ao64, co64, eo64⟩ := Kd.R_slice HO_16.out
        subst eo64
        go_wp2
        go_ret
        exact ⟨by first | rfl | (simp [errW_none, errW_some] <;> rfl) | (simp [*, errW_none, errW_some] <;> rfl), zqA HB.out⟩
      ·
       rw [if_neg c57] at H
       have c57b0 : ((t173.length : Int) == 0) = false := beq_eq_false_iff_ne.mpr c57
       have c57b1 : ((t173.length : Int) != 0) = true := bne_iff_ne.mpr c57
       have c57b2 : ¬ (t173 = []) := fun h_ => c57 (by rw [h_]; rfl)
       obtain rfl := Option.some.inj H
       obtain ⟨Ao65, co65, eo65⟩ := Kd.R_slice HO_14.out
       subst eo65
       go_wp2
       go_ret
       exact ⟨by first | rfl | (simp [errW_none, errW_some] <;> rfl) | (simp [*, errW_none, errW_some] <;> rfl), zqA HB.out⟩
end Go.Proofs.Ythoeindopljmkaa.P
end
section
namespace Pm
abbrev B2 := Int × Int
structure Bds (L : List B2) : Prop where
  ne : L ≠ []
  t : ∀ b ∈ L, 1 ≤ b.1 ∧ b.1 ≤ 100
  a : ∀ b ∈ L, 0 ≤ b.2 ∧ b.2 ≤ 1000000
def minFrom (f : B2 → Int) : List B2 → Int → Int → Int → Int × Int
  | [], _, s, k => (s, k)
  | b :: l, i, s, k => if i = 0 ∨ f b < s then minFrom f l (i + 1) (f b) i else minFrom f l (i + 1) s k
def maxFrom (n : Int) (f : B2 → Int) : List B2 → Int → Int → Int → Int × Int
  | [], _, s, k => (s, k)
  | b :: l, i, s, k => if b.1 ≤ n ∧ f b > s then maxFrom n f l (i + 1) (f b) i else maxFrom n f l (i + 1) s k
theorem minFrom_le (f : B2 → Int) : ∀ (l : List B2) (i s k : Int), 0 < i → (minFrom f l i s k).1 ≤ s ∧ ∀ b ∈ l, (minFrom f l i s k).1 ≤ f b
  | [], _, s, k, _ => ⟨Int.le_refl _, fun _ h => by cases h⟩
  | b :: l, i, s, k, hi => by
    unfold minFrom
    by_cases c : i = 0 ∨ f b < s
    · rw [if_pos c]
      obtain ⟨h1, h2⟩ := minFrom_le f l (i + 1) (f b) i (by omega)
      refine ⟨by omega, fun x hx => ?_⟩
      cases hx with
      | head => exact h1
      | tail _ hx => exact h2 x hx
    · rw [if_neg c]
      obtain ⟨h1, h2⟩ := minFrom_le f l (i + 1) s k (by omega)
      refine ⟨h1, fun x hx => ?_⟩
      cases hx with
      | head => omega
      | tail _ hx => exact h2 x hx
theorem minFrom_at (f : B2 → Int) : ∀ (l pre : List B2) (s k : Int), (k = -1 ∧ pre = [] ∨ ∃ j : Nat, k = j ∧ ∃ b, (pre ++ l)[j]? = some b ∧ j < pre.length ∧ f b = s) →
    (minFrom f l (pre.length : Int) s k = (s, k) ∧ l = [] ∧ pre = []) ∨ ∃ j : Nat, (minFrom f l (pre.length : Int) s k).2 = j ∧ ∃ b, (pre ++ l)[j]? = some b ∧ f b = (minFrom f l (pre.length : Int) s k).1
  | [], pre, s, k, h => by
    rcases h with ⟨h1, h2⟩ | ⟨j, hj, b, hb, _, hf⟩
    · exact .inl ⟨rfl, rfl, h2⟩
    · exact .inr ⟨j, hj, b, hb, hf⟩
  | b :: l, pre, s, k, h => by
    have e : pre ++ b :: l = (pre ++ [b]) ++ l := by simp
    have el : ((pre ++ [b]).length : Int) = (pre.length : Int) + 1 := by simp
    unfold minFrom
    by_cases c : (pre.length : Int) = 0 ∨ f b < s
    · rw [if_pos c, ← el, e]
      rcases minFrom_at f l (pre ++ [b]) (f b) pre.length (.inr ⟨pre.length, rfl, b, by simp, by simp, rfl⟩) with ⟨_, _, h3⟩ | h
      · simp at h3
      · exact .inr h
    · rw [if_neg c, ← el, e]
      rcases h with ⟨h1, h2⟩ | ⟨j, hj, x, hx, hlt, hf⟩
      · exact absurd (.inl (by rw [h2]; rfl)) c
      · rcases minFrom_at f l (pre ++ [b]) s k (.inr ⟨j, hj, x, by rw [← e]; exact hx, by simp; omega, hf⟩) with ⟨_, _, h3⟩ | h
        · simp at h3
        · exact .inr h
theorem maxFrom_le (n : Int) (f : B2 → Int) : ∀ (l : List B2) (i s k : Int), s ≤ (maxFrom n f l i s k).1 ∧ ∀ b ∈ l, b.1 ≤ n → f b ≤ (maxFrom n f l i s k).1
  | [], _, s, k => ⟨Int.le_refl _, fun _ h => by cases h⟩
  | b :: l, i, s, k => by
    unfold maxFrom
    by_cases c : b.1 ≤ n ∧ f b > s
    · rw [if_pos c]
      obtain ⟨h1, h2⟩ := maxFrom_le n f l (i + 1) (f b) i
      refine ⟨by omega, fun x hx hn => ?_⟩
      cases hx with
      | head => exact h1
      | tail _ hx => exact h2 x hx hn
    · rw [if_neg c]
      obtain ⟨h1, h2⟩ := maxFrom_le n f l (i + 1) s k
      refine ⟨h1, fun x hx hn => ?_⟩
      cases hx with
      | head => omega
      | tail _ hx => exact h2 x hx hn
theorem maxFrom_at (n : Int) (f : B2 → Int) : ∀ (l pre : List B2) (s0 s k : Int), (k = -1 ∧ s = s0 ∨ ∃ j : Nat, k = j ∧ ∃ b, (pre ++ l)[j]? = some b ∧ f b = s ∧ b.1 ≤ n) →
    ((maxFrom n f l (pre.length : Int) s k).2 = -1 ∧ (maxFrom n f l (pre.length : Int) s k).1 = s0) ∨ ∃ j : Nat, (maxFrom n f l (pre.length : Int) s k).2 = j ∧ ∃ b, (pre ++ l)[j]? = some b ∧ f b = (maxFrom n f l (pre.length : Int) s k).1 ∧ b.1 ≤ n
  | [], pre, s0, s, k, h => by
    rcases h with ⟨h1, h2⟩ | ⟨j, hj, b, hb, hf, hn⟩
    · exact .inl ⟨h1, h2⟩
    · exact .inr ⟨j, hj, b, hb, hf, hn⟩
  | b :: l, pre, s0, s, k, h => by
    have e : pre ++ b :: l = (pre ++ [b]) ++ l := by simp
    have el : ((pre ++ [b]).length : Int) = (pre.length : Int) + 1 := by simp
    unfold maxFrom
    by_cases c : b.1 ≤ n ∧ f b > s
    · rw [if_pos c, ← el, e]
      exact maxFrom_at n f l (pre ++ [b]) s0 (f b) pre.length (.inr ⟨pre.length, rfl, b, by simp, rfl, c.1⟩)
    · rw [if_neg c, ← el, e]
      exact maxFrom_at n f l (pre ++ [b]) s0 s k (by rw [← e]; exact h)
def stepM (L : List B2) (s : List Int) : Int × Int := minFrom (fun b => s.getD (max 0 ((s.length : Int) - b.1)).toNat 0 + b.2) L 0 0 0
def stepL (L : List B2) (s : List Int) : Int × Int := maxFrom (s.length : Int) (fun b => s.getD ((s.length : Int) - b.1).toNat 0 + b.2) L 0 (s.getD (s.length - 1) 0) (-1)
def tabF (R : List Int → Int × Int) : Nat → List Int × List Int
  | 0 => ([0], [-1])
  | n + 1 => ((tabF R n).1 ++ [(R (tabF R n).1).1], (tabF R n).2 ++ [(R (tabF R n).1).2])
theorem tabF_len (R : List Int → Int × Int) : ∀ n, (tabF R n).1.length = n + 1 ∧ (tabF R n).2.length = n + 1
  | 0 => ⟨rfl, rfl⟩
  | n + 1 => by
    obtain ⟨h1, h2⟩ := tabF_len R n
    simp [tabF, h1, h2]
def valF (R : List Int → Int × Int) (n : Nat) : Int := (tabF R n).1.getD n 0
def lastF (R : List Int → Int × Int) (n : Nat) : Int := (tabF R n).2.getD n 0
theorem tabF_get (R : List Int → Int × Int) : ∀ (n m : Nat), m ≤ n → (tabF R n).1.getD m 0 = valF R m ∧ (tabF R n).2.getD m 0 = lastF R m
  | 0, m, h => by
    have : m = 0 := by omega
    subst this
    exact ⟨rfl, rfl⟩
  | n + 1, m, h => by
    by_cases c : m = n + 1
    · subst c; exact ⟨rfl, rfl⟩
    · obtain ⟨h1, h2⟩ := tabF_get R n m (by omega)
      obtain ⟨l1, l2⟩ := tabF_len R n
      simp only [tabF]
      rw [List.getD_eq_getElem?_getD, List.getElem?_append_left (by omega), ← List.getD_eq_getElem?_getD, h1, List.getD_eq_getElem?_getD, List.getElem?_append_left (by omega), ← List.getD_eq_getElem?_getD, h2]
      exact ⟨rfl, rfl⟩
theorem valF_succ (R : List Int → Int × Int) (n : Nat) : valF R (n + 1) = (R (tabF R n).1).1 ∧ lastF R (n + 1) = (R (tabF R n).1).2 := by
  obtain ⟨l1, l2⟩ := tabF_len R n
  unfold valF lastF
  simp only [tabF]
  rw [List.getD_eq_getElem?_getD, List.getElem?_append_right (by omega), List.getD_eq_getElem?_getD, List.getElem?_append_right (by omega), l1, l2]
  simp
def mst (L : List B2) : Nat → Int := valF (stepM L)
def lst (L : List B2) : Nat → Int := valF (stepL L)
section
variable {L : List B2} (h : Bds L)
include h
theorem mst_spec (n : Nat) : (∀ b ∈ L, mst L (n + 1) ≤ mst L (n + 1 - b.1.toNat) + b.2) ∧ ∃ j : Nat, lastF (stepM L) (n + 1) = j ∧ ∃ b, L[j]? = some b ∧ mst L (n + 1) = mst L (n + 1 - b.1.toNat) + b.2 := by
  obtain ⟨l1, _⟩ := tabF_len (stepM L) n
  have hg : ∀ b ∈ L, (tabF (stepM L) n).1.getD (max 0 (((tabF (stepM L) n).1.length : Int) - b.1)).toNat 0 = mst L (n + 1 - b.1.toNat) := by
    intro b hb
    have := h.t b hb
    rw [show (max 0 (((tabF (stepM L) n).1.length : Int) - b.1)).toNat = n + 1 - b.1.toNat by omega]
    exact (tabF_get (stepM L) n _ (by omega)).1
  have hv := valF_succ (stepM L) n
  have hne := h.ne
  constructor
  · intro b hb
    show valF (stepM L) (n + 1) ≤ _
    rw [hv.1, ← hg b hb]
    unfold stepM
    cases L with
    | nil => exact absurd rfl hne
    | cons c l =>
      unfold minFrom
      rw [if_pos (.inl rfl)]
      obtain ⟨m1, m2⟩ := minFrom_le (fun b => (tabF (stepM (c :: l)) n).1.getD (max 0 (((tabF (stepM (c :: l)) n).1.length : Int) - b.1)).toNat 0 + b.2) l (0 + 1) ((tabF (stepM (c :: l)) n).1.getD (max 0 (((tabF (stepM (c :: l)) n).1.length : Int) - c.1)).toNat 0 + c.2) 0 (by omega)
      cases hb with
      | head => exact m1
      | tail _ hb => exact m2 b hb
  · rw [hv.2]
    show ∃ j : Nat, _ ∧ ∃ b, _ ∧ valF (stepM L) (n + 1) = _
    rw [hv.1]
    have := minFrom_at (fun b => (tabF (stepM L) n).1.getD (max 0 (((tabF (stepM L) n).1.length : Int) - b.1)).toNat 0 + b.2) L [] 0 0
    unfold stepM
    cases L with
    | nil => exact absurd rfl hne
    | cons c l =>
      unfold minFrom
      rw [if_pos (.inl rfl)]
      rcases minFrom_at (fun b => (tabF (stepM (c :: l)) n).1.getD (max 0 (((tabF (stepM (c :: l)) n).1.length : Int) - b.1)).toNat 0 + b.2) l [c] ((tabF (stepM (c :: l)) n).1.getD (max 0 (((tabF (stepM (c :: l)) n).1.length : Int) - c.1)).toNat 0 + c.2) 0 (.inr ⟨0, rfl, c, rfl, by simp, rfl⟩) with ⟨_, _, h3⟩ | ⟨j, hj, b, hb, hf⟩
      · simp at h3
      · refine ⟨j, hj, b, hb, ?_⟩
        rw [← hg b (List.mem_of_getElem? hb)]
        exact hf.symm
theorem lst_spec (n : Nat) : lst L n ≤ lst L (n + 1) ∧ (∀ b ∈ L, b.1 ≤ (n : Int) + 1 → lst L (n + 1 - b.1.toNat) + b.2 ≤ lst L (n + 1)) ∧
    ((lastF (stepL L) (n + 1) = -1 ∧ lst L (n + 1) = lst L n) ∨ ∃ j : Nat, lastF (stepL L) (n + 1) = j ∧ ∃ b, L[j]? = some b ∧ b.1 ≤ (n : Int) + 1 ∧ lst L (n + 1) = lst L (n + 1 - b.1.toNat) + b.2) := by
  obtain ⟨l1, _⟩ := tabF_len (stepL L) n
  have hg : ∀ b ∈ L, b.1 ≤ (n : Int) + 1 → (tabF (stepL L) n).1.getD (((tabF (stepL L) n).1.length : Int) - b.1).toNat 0 = lst L (n + 1 - b.1.toNat) := by
    intro b hb hn
    have := h.t b hb
    rw [show (((tabF (stepL L) n).1.length : Int) - b.1).toNat = n + 1 - b.1.toNat by omega]
    exact (tabF_get (stepL L) n _ (by omega)).1
  have h0 : (tabF (stepL L) n).1.getD ((tabF (stepL L) n).1.length - 1) 0 = lst L n := by
    rw [l1]
    exact (tabF_get (stepL L) n n (by omega)).1
  have hv := valF_succ (stepL L) n
  have hm := maxFrom_le ((tabF (stepL L) n).1.length : Int) (fun b => (tabF (stepL L) n).1.getD (((tabF (stepL L) n).1.length : Int) - b.1).toNat 0 + b.2) L 0 ((tabF (stepL L) n).1.getD ((tabF (stepL L) n).1.length - 1) 0) (-1)
  have ha := maxFrom_at ((tabF (stepL L) n).1.length : Int) (fun b => (tabF (stepL L) n).1.getD (((tabF (stepL L) n).1.length : Int) - b.1).toNat 0 + b.2) L [] ((tabF (stepL L) n).1.getD ((tabF (stepL L) n).1.length - 1) 0) ((tabF (stepL L) n).1.getD ((tabF (stepL L) n).1.length - 1) 0) (-1) (.inl ⟨rfl, rfl⟩)
  have ev : lst L (n + 1) = (stepL L (tabF (stepL L) n).1).1 := hv.1
  have el : lastF (stepL L) (n + 1) = (stepL L (tabF (stepL L) n).1).2 := hv.2
  have es : stepL L (tabF (stepL L) n).1 = maxFrom ((tabF (stepL L) n).1.length : Int) (fun b => (tabF (stepL L) n).1.getD (((tabF (stepL L) n).1.length : Int) - b.1).toNat 0 + b.2) L 0 ((tabF (stepL L) n).1.getD ((tabF (stepL L) n).1.length - 1) 0) (-1) := rfl
  rw [es] at ev el
  simp only [List.length_nil] at ha
  rw [show ((0 : Nat) : Int) = 0 from rfl, ← ev, ← el] at ha
  rw [← ev] at hm
  rw [h0] at hm ha
  refine ⟨hm.1, fun b hb hn => ?_, ?_⟩
  · have := hm.2 b hb (by rw [l1]; omega)
    rw [hg b hb hn] at this
    exact this
  · rcases ha with ⟨h1, h2⟩ | ⟨j, hj, b, hb, hf, hn⟩
    · exact .inl ⟨h1, h2⟩
    · have hb' : L[j]? = some b := hb
      have hn' : b.1 ≤ (n : Int) + 1 := by rw [l1] at hn; omega
      refine .inr ⟨j, hj, b, hb', hn', ?_⟩
      rw [← hf]
      rw [hg b (List.mem_of_getElem? hb') hn']
theorem mst_nonneg : ∀ n, 0 ≤ mst L n := by
  intro n
  induction n using Nat.strongRecOn with
  | _ n ih =>
    cases n with
    | zero => exact Int.le_refl _
    | succ n =>
      obtain ⟨_, j, _, b, hb, e⟩ := mst_spec h n
      have hbm := List.mem_of_getElem? hb
      have := h.t b hbm
      have := h.a b hbm
      have := ih (n + 1 - b.1.toNat) (by omega)
      omega
theorem mst_step : ∀ n, mst L n ≤ mst L (n + 1) := by
  intro n
  induction n using Nat.strongRecOn with
  | _ n ih =>
    obtain ⟨_, j, _, b, hb, e⟩ := mst_spec h n
    have hbm := List.mem_of_getElem? hb
    have ht := h.t b hbm
    have ha := h.a b hbm
    cases n with
    | zero =>
      have := mst_nonneg h 1
      exact this
    | succ n =>
      have h1 := (mst_spec h n).1 b hbm
      by_cases c : (b.1.toNat) ≤ n + 1
      · have h2 := ih (n + 1 - b.1.toNat) (by omega)
        rw [show n + 1 - b.1.toNat + 1 = n + 1 + 1 - b.1.toNat by omega] at h2
        omega
      · rw [show n + 1 - b.1.toNat = n + 1 + 1 - b.1.toNat by omega] at h1
        omega
theorem mst_mono {m n : Nat} (hmn : m ≤ n) : mst L m ≤ mst L n := by
  induction n with
  | zero =>
    have : m = 0 := by omega
    subst this; exact Int.le_refl _
  | succ n ih =>
    by_cases c : m = n + 1
    · subst c; exact Int.le_refl _
    · exact Int.le_trans (ih (by omega)) (mst_step h n)
theorem mst_bd : ∀ n : Nat, mst L n ≤ 1000000 * n := by
  intro n
  induction n with
  | zero => exact Int.le_refl _
  | succ n ih =>
    obtain ⟨c, l, e⟩ := List.exists_cons_of_ne_nil h.ne
    have hc : c ∈ L := by rw [e]; exact List.mem_cons_self ..
    have h1 := (mst_spec h n).1 c hc
    have ha := h.a c hc
    have ht := h.t c hc
    have h2 := mst_mono h (show n + 1 - c.1.toNat ≤ n by omega)
    omega
theorem lst_mono {m n : Nat} (hmn : m ≤ n) : lst L m ≤ lst L n := by
  induction n with
  | zero =>
    have : m = 0 := by omega
    subst this; exact Int.le_refl _
  | succ n ih =>
    by_cases c : m = n + 1
    · subst c; exact Int.le_refl _
    · exact Int.le_trans (ih (by omega)) (lst_spec h n).1
theorem lst_nonneg (n : Nat) : 0 ≤ lst L n := lst_mono h (Nat.zero_le n)
theorem lst_bd : ∀ n : Nat, lst L n ≤ 1000000 * n := by
  intro n
  induction n using Nat.strongRecOn with
  | _ n ih =>
    cases n with
    | zero => exact Int.le_refl _
    | succ n =>
      rcases (lst_spec h n).2.2 with ⟨_, e⟩ | ⟨j, _, b, hb, hn, e⟩
      · have := ih n (by omega)
        omega
      · have hbm := List.mem_of_getElem? hb
        have ht := h.t b hbm
        have ha := h.a b hbm
        have := ih (n + 1 - b.1.toNat) (by omega)
        omega
end
end Pm
end
section
namespace Go.Proofs.Ythoeindopljmkaa.P
open Go.RowKit Go.Proofs.YthoeindopljmkaaW.PrintWords Go.Proofs.YthoeindopljmkaaW.PrintLast Go.Proofs.YthoeindopljmkaaW.PrintMore
open Pm
def bs (l : List S71) : List B2 := l.map fun b => (b.f0, b.f1)
theorem bs_drop (l : List S71) {i : Nat} (h : i < l.length) : (bs l).drop i = ((rd_T71 l i).f0, (rd_T71 l i).f1) :: (bs l).drop (i + 1) := by
  have hl : i < (bs l).length := by simpa [bs] using h
  rw [List.drop_eq_getElem_cons hl]
  congr 1
  unfold rd_T71
  rw [List.getD_eq_getElem?_getD, Int.toNat_natCast, List.getElem?_eq_getElem h]
  simp [bs]
theorem mx_max (a b : Int) : mx a b = max a b := by unfold mx; omega
def Small (s : List Int) : Prop := ∀ n, 0 ≤ s.getD n 0 ∧ s.getD n 0 ≤ 1000000000
theorem most_l0 {l : List S71} (hb : Bds (bs l)) (hl : l.length ≤ 1000) (s t : List Int) (hs : Small s) (hn : 0 < s.length) (hn2 : s.length ≤ 1000) : ∀ (k : Nat) (i : Nat) (x4 x5 : Int), i ≤ l.length → l.length - i < k →
    pump_bounds_most.l0 k x4 x5 s.length l l.length i s t = some (minFrom (fun b => s.getD (max 0 ((s.length : Int) - b.1)).toNat 0 + b.2) ((bs l).drop i) i x4 x5)
  | 0, i, x4, x5, hi, hk => by omega
  | k + 1, i, x4, x5, hi, hk => by
    unfold pump_bounds_most.l0
    by_cases c : i < l.length
    · have hm : ((rd_T71 l i).f0, (rd_T71 l i).f1) ∈ bs l := List.mem_of_mem_drop (i := i) (by rw [bs_drop l c]; exact List.mem_cons_self)
      have ht := hb.t _ hm
      have ha := hb.a _ hm
      dsimp only at ht ha
      have e1 : wrap64 ((s.length : Int) - (rd_T71 l i).f0) = (s.length : Int) - (rd_T71 l i).f0 := by unfold wrap64; omega
      have e2 : wrap64 ((i : Int) + 1) = ((i + 1 : Nat) : Int) := by unfold wrap64; omega
      have hj := hs (max 0 ((s.length : Int) - (rd_T71 l i).f0)).toNat
      have e3 : wrap64 (rd s (mx 0 (wrap64 ((s.length : Int) - (rd_T71 l i).f0))) + (rd_T71 l i).f1) = s.getD (max 0 ((s.length : Int) - (rd_T71 l i).f0)).toNat 0 + (rd_T71 l i).f1 := by
        rw [e1, mx_max]
        show wrap64 (s.getD _ 0 + _) = _
        unfold wrap64; omega
      rw [if_pos (by omega), if_pos (by omega), if_pos (by omega), if_pos (by rw [e1, mx_max]; omega), if_pos (by rw [e1, mx_max]; omega), e3, e2, bs_drop l c]
      have ih := fun a b => most_l0 hb hl s t hs hn hn2 k (i + 1) a b (by omega) (by omega)
      unfold minFrom
      by_cases c0 : i = 0
      · rw [if_pos (by omega), ih, if_pos (.inl (by omega))]
        rfl
      · rw [if_neg (by omega)]
        by_cases c4 : s.getD (max 0 ((s.length : Int) - (rd_T71 l i).f0)).toNat 0 + (rd_T71 l i).f1 < x4
        · rw [if_pos c4, ih, if_pos (.inr c4)]; rfl
        · rw [if_neg c4, ih, if_neg (by rintro (h | h); omega; exact c4 h)]; rfl
    · rw [if_neg (by omega), List.drop_eq_nil_of_le (by simp [bs]; omega)]
      rfl
theorem tab_out (R : List Int → Int × Int) (n m : Nat) (h : n < m) : (tabF R n).1.getD m 0 = 0 := by
  rw [List.getD_eq_getElem?_getD, List.getElem?_eq_none (by rw [(tabF_len R n).1]; omega)]; rfl
theorem small_most {L : List B2} (hb : Bds L) {n : Nat} (hn : n ≤ 500) : Small (tabF (stepM L) n).1 := fun m => by
  by_cases c : m ≤ n
  · rw [(tabF_get _ n m c).1]
    have h1 := mst_nonneg hb m
    have h2 := mst_bd hb m
    unfold mst at h1 h2
    omega
  · rw [tab_out _ n m (by omega)]; omega
theorem small_least {L : List B2} (hb : Bds L) {n : Nat} (hn : n ≤ 500) : Small (tabF (stepL L) n).1 := fun m => by
  by_cases c : m ≤ n
  · rw [(tabF_get _ n m c).1]
    have h1 := lst_nonneg hb m
    have h2 := lst_bd hb m
    unfold lst at h1 h2
    omega
  · rw [tab_out _ n m (by omega)]; omega
theorem most_f {l : List S71} (hb : Bds (bs l)) (hl : l.length ≤ 1000) {n : Nat} (hn : n ≤ 500) (t : List Int) : pump_bounds_most.f (l.length + 1) l (tabF (stepM (bs l)) n).1 t = some (stepM (bs l) (tabF (stepM (bs l)) n).1) := by
  unfold pump_bounds_most.f
  have h := most_l0 hb hl (tabF (stepM (bs l)) n).1 t (small_most hb hn) (by rw [(tabF_len _ n).1]; omega) (by rw [(tabF_len _ n).1]; omega) (l.length + 1) 0 0 0 (Nat.zero_le _) (by omega)
  rw [List.drop_zero] at h
  exact h
theorem tabledm_l0 {l : List S71} (hb : Bds (bs l)) (hl : l.length ≤ 1000) {a : Nat} (ha : a ≤ 400) : ∀ (k m : Nat), m ≤ a → a - m + 1 < k → pump_tabledm.l0 k l a (tabF (stepM (bs l)) m).1 (tabF (stepM (bs l)) m).2 = some (tabF (stepM (bs l)) a)
  | 0, m, _, hk => by omega
  | k + 1, m, hm, hk => by
    unfold pump_tabledm.l0
    have l1 := tabF_len (stepM (bs l)) m
    by_cases c : m < a
    · have e := tabledm_l0 hb hl ha k (m + 1) (by omega) (by omega)
      rw [if_pos (by rw [l1.1]; omega), most_f hb hl (by omega), Option.bind_some, if_pos (by rw [l1.1]; omega), if_pos (by rw [l1.2]; omega)]
      exact e
    · obtain rfl : m = a := by omega
      rw [if_neg (by rw [l1.1]; omega)]
theorem tabled_most_f {l : List S71} (hb : Bds (bs l)) (hl : l.length ≤ 1000) {a : Nat} (ha : a ≤ 400) : tabled_most.f l a = some (tabF (stepM (bs l)) a) := by
  unfold tabled_most.f pump_tabledm.f
  exact tabledm_l0 hb hl ha _ 0 (Nat.zero_le _) (by rw [Int.toNat_natCast]; omega)
theorem least_l0 {l : List S71} (hb : Bds (bs l)) (hl : l.length ≤ 1000) (s t : List Int) (hs : Small s) (hn : 0 < s.length) (hn2 : s.length ≤ 1000) : ∀ (k : Nat) (i : Nat) (x4 x5 : Int), i ≤ l.length → l.length - i < k →
    pump_bounds_least.l0 k x4 x5 s.length l l.length i s t = some (maxFrom (s.length : Int) (fun b => s.getD ((s.length : Int) - b.1).toNat 0 + b.2) ((bs l).drop i) i x4 x5)
  | 0, i, x4, x5, hi, hk => by omega
  | k + 1, i, x4, x5, hi, hk => by
    unfold pump_bounds_least.l0
    by_cases c : i < l.length
    · have hm : ((rd_T71 l i).f0, (rd_T71 l i).f1) ∈ bs l := List.mem_of_mem_drop (i := i) (by rw [bs_drop l c]; exact List.mem_cons_self)
      have ht := hb.t _ hm
      have ha := hb.a _ hm
      dsimp only at ht ha
      have e1 : wrap64 ((s.length : Int) - (rd_T71 l i).f0) = (s.length : Int) - (rd_T71 l i).f0 := by unfold wrap64; omega
      have e2 : wrap64 ((i : Int) + 1) = ((i + 1 : Nat) : Int) := by unfold wrap64; omega
      have hj := hs ((s.length : Int) - (rd_T71 l i).f0).toNat
      have e3 : wrap64 (rd s (wrap64 ((s.length : Int) - (rd_T71 l i).f0)) + (rd_T71 l i).f1) = s.getD ((s.length : Int) - (rd_T71 l i).f0).toNat 0 + (rd_T71 l i).f1 := by
        rw [e1]
        show wrap64 (s.getD _ 0 + _) = _
        unfold wrap64; omega
      have ih := fun a b => least_l0 hb hl s t hs hn hn2 k (i + 1) a b (by omega) (by omega)
      rw [if_pos (by omega), if_pos (by omega), if_pos (by omega), bs_drop l c]
      unfold maxFrom
      by_cases c0 : (rd_T71 l i).f0 ≤ (s.length : Int)
      · rw [if_pos c0, if_pos (by rw [e1]; omega), if_pos (by rw [e1]; omega), e3, e2]
        by_cases c4 : s.getD ((s.length : Int) - (rd_T71 l i).f0).toNat 0 + (rd_T71 l i).f1 > x4
        · rw [if_pos c4, ih, if_pos ⟨c0, c4⟩]; rfl
        · rw [if_neg c4, ih, if_neg (fun h => c4 h.2)]; rfl
      · rw [if_neg c0, e2, ih, if_neg (fun h => c0 h.1)]; rfl
    · rw [if_neg (by omega), List.drop_eq_nil_of_le (by simp [bs]; omega)]
      rfl
theorem least_f {l : List S71} (hb : Bds (bs l)) (hl : l.length ≤ 1000) {n : Nat} (hn : n ≤ 500) (t : List Int) : pump_bounds_least.f (l.length + 1) l (tabF (stepL (bs l)) n).1 t = some (stepL (bs l) (tabF (stepL (bs l)) n).1) := by
  have l1 := (tabF_len (stepL (bs l)) n).1
  have hsm := small_least hb hn
  generalize (tabF (stepL (bs l)) n).1 = X at l1 hsm
  unfold pump_bounds_least.f
  have e1 : wrap64 ((X.length : Int) - 1) = (n : Int) := by rw [l1]; unfold wrap64; omega
  rw [e1, if_pos (by omega), if_pos (by rw [l1]; omega)]
  have h := least_l0 hb hl X t hsm (by rw [l1]; omega) (by rw [l1]; omega) (l.length + 1) 0 (rd X n) (-1) (Nat.zero_le _) (by omega)
  rw [List.drop_zero] at h
  refine h.trans ?_
  unfold stepL
  rw [show X.length - 1 = n by omega]
  rfl
theorem tabledl_l0 {l : List S71} (hb : Bds (bs l)) (hl : l.length ≤ 1000) {a : Nat} (ha : a ≤ 400) : ∀ (k m : Nat), m ≤ a → a - m + 1 < k → pump_tabledl.l0 k l a (tabF (stepL (bs l)) m).1 (tabF (stepL (bs l)) m).2 = some (tabF (stepL (bs l)) a)
  | 0, m, _, hk => by omega
  | k + 1, m, hm, hk => by
    unfold pump_tabledl.l0
    have l1 := tabF_len (stepL (bs l)) m
    by_cases c : m < a
    · have e := tabledl_l0 hb hl ha k (m + 1) (by omega) (by omega)
      rw [if_pos (by rw [l1.1]; omega), least_f hb hl (by omega), Option.bind_some, if_pos (by rw [l1.1]; omega), if_pos (by rw [l1.2]; omega)]
      exact e
    · obtain rfl : m = a := by omega
      rw [if_neg (by rw [l1.1]; omega)]
theorem tabled_least_f {l : List S71} (hb : Bds (bs l)) (hl : l.length ≤ 1000) {a : Nat} (ha : a ≤ 400) : tabled_least.f l a = some (tabF (stepL (bs l)) a) := by
  unfold tabled_least.f pump_tabledl.f
  exact tabledl_l0 hb hl ha _ 0 (Nat.zero_le _) (by rw [Int.toNat_natCast]; omega)
end Go.Proofs.Ythoeindopljmkaa.P
end
section
namespace Go.Proofs.Ythoeindopljmkaa.P
open Go.RowKit Go.Proofs.YthoeindopljmkaaW.PrintWords Go.Proofs.YthoeindopljmkaaW.PrintLast Go.Proofs.YthoeindopljmkaaW.PrintMore
open Pm
def ticksOf (l : List S71) (r : List Int) : Int := (r.map fun j => (rd_T71 l j).f0).sum
def amountOf (l : List S71) (r : List Int) : Int := (r.map fun j => (rd_T71 l j).f1).sum
theorem bs_get {l : List S71} {j : Nat} {b : B2} (h : (bs l)[j]? = some b) : j < l.length ∧ b = ((rd_T71 l j).f0, (rd_T71 l j).f1) := by
  unfold bs at h
  rw [List.getElem?_map] at h
  obtain ⟨x, hx, rfl⟩ := Option.map_eq_some_iff.mp h
  obtain ⟨hj, rfl⟩ := List.getElem?_eq_some_iff.1 hx
  refine ⟨hj, ?_⟩
  unfold rd_T71
  rw [List.getD_eq_getElem?_getD, Int.toNat_natCast, List.getElem?_eq_getElem hj]; rfl
theorem taken_most {l : List S71} (hb : Bds (bs l)) (hl : l.length ≤ 1000) {N : Nat} (hN : N ≤ 400) : ∀ (k n : Nat) (acc : List Int), n ≤ N → n < k → acc.length + n ≤ 1000 →
    ∃ r, takenRaw.l0 k l acc n (tabF (stepM (bs l)) N).1 (tabF (stepM (bs l)) N).2 = some (acc ++ r) ∧ r.length ≤ n ∧ (∀ j ∈ r, 0 ≤ j ∧ j < l.length) ∧ (n : Int) ≤ ticksOf l r ∧ amountOf l r = mst (bs l) n
  | 0, n, acc, _, hk, _ => by omega
  | k + 1, 0, acc, _, _, _ => by
    unfold takenRaw.l0
    refine ⟨[], ?_, Nat.le_refl _, ?_, ?_, ?_⟩
    · rw [if_neg (by simp)]; simp
    · intro j h; cases h
    · simp [ticksOf]
    · rfl
  | k + 1, n + 1, acc, hn, hk, ha => by
    obtain ⟨_, j, hj, b, hbj, hm⟩ := mst_spec hb n
    obtain ⟨hjl, rfl⟩ := bs_get hbj
    dsimp only at hm
    have hmem : ((rd_T71 l j).f0, (rd_T71 l j).f1) ∈ bs l := List.mem_of_getElem? hbj
    have ht := hb.t _ hmem
    dsimp only at ht
    have hlast : rd (tabF (stepM (bs l)) N).2 ((n + 1 : Nat) : Int) = j := by
      show (tabF (stepM (bs l)) N).2.getD _ 0 = _
      rw [Int.toNat_natCast, (tabF_get _ N (n + 1) hn).2, hj]
    have hlen := (tabF_len (stepM (bs l)) N).2
    have e1 : mx 0 (wrap64 (((n + 1 : Nat) : Int) - (rd_T71 l j).f0)) = ((n + 1 - (rd_T71 l j).f0.toNat : Nat) : Int) := by
      rw [mx_max]; unfold wrap64; omega
    obtain ⟨r, hr, h1, h2, h3, h4⟩ := taken_most hb hl hN k (n + 1 - (rd_T71 l j).f0.toNat) (acc ++ [(j : Int)]) (by omega) (by omega) (by simp; omega)
    refine ⟨(j : Int) :: r, ?_, by simp; omega, fun x hx => ?_, ?_, ?_⟩
    · unfold takenRaw.l0
      rw [hlast, if_pos (by omega), if_pos (by omega), if_pos (by rw [hlen]; omega), if_pos (by omega), if_pos (by omega), if_pos (by omega), if_pos (by omega), e1, hr]
      simp
    · rcases List.mem_cons.1 hx with rfl | hx
      · omega
      · exact h2 x hx
    · unfold ticksOf at h3 ⊢
      rw [List.map_cons, List.sum_cons]; omega
    · unfold amountOf at h4 ⊢
      rw [List.map_cons, List.sum_cons, h4, hm]; omega
theorem taken_least {l : List S71} (hb : Bds (bs l)) (hl : l.length ≤ 1000) {N : Nat} (hN : N ≤ 400) : ∀ (k n : Nat) (acc : List Int), n ≤ N → n < k → acc.length + n ≤ 1000 →
    ∃ r, takenRaw.l0 k l acc n (tabF (stepL (bs l)) N).1 (tabF (stepL (bs l)) N).2 = some (acc ++ r) ∧ r.length ≤ n ∧ (∀ j ∈ r, 0 ≤ j ∧ j < l.length) ∧ ticksOf l r ≤ n ∧ amountOf l r = lst (bs l) n
  | 0, n, acc, _, hk, _ => by omega
  | k + 1, 0, acc, _, _, _ => by
    unfold takenRaw.l0
    refine ⟨[], ?_, Nat.le_refl _, ?_, ?_, ?_⟩
    · rw [if_neg (by simp)]; simp
    · intro j h; cases h
    · simp [ticksOf]
    · rfl
  | k + 1, n + 1, acc, hn, hk, ha => by
    have hlen := (tabF_len (stepL (bs l)) N).2
    rcases (lst_spec hb n).2.2 with ⟨hj, hm⟩ | ⟨j, hj, b, hbj, htn, hm⟩
    · have hlast : rd (tabF (stepL (bs l)) N).2 ((n + 1 : Nat) : Int) = -1 := by
        show (tabF (stepL (bs l)) N).2.getD _ 0 = _
        rw [Int.toNat_natCast, (tabF_get _ N (n + 1) hn).2, hj]
      obtain ⟨r, hr, h1, h2, h3, h4⟩ := taken_least hb hl hN k n acc (by omega) (by omega) (by omega)
      refine ⟨r, ?_, by omega, h2, by omega, by rw [h4, hm]⟩
      unfold takenRaw.l0
      rw [hlast, if_pos (by omega), if_pos (by omega), if_pos (by rw [hlen]; omega), if_neg (by omega), show wrap64 (((n + 1 : Nat) : Int) - 1) = n by unfold wrap64; omega, hr]
    · obtain ⟨hjl, rfl⟩ := bs_get hbj
      dsimp only at hm htn
      have hmem : ((rd_T71 l j).f0, (rd_T71 l j).f1) ∈ bs l := List.mem_of_getElem? hbj
      have ht := hb.t _ hmem
      dsimp only at ht
      have hlast : rd (tabF (stepL (bs l)) N).2 ((n + 1 : Nat) : Int) = j := by
        show (tabF (stepL (bs l)) N).2.getD _ 0 = _
        rw [Int.toNat_natCast, (tabF_get _ N (n + 1) hn).2, hj]
      have e1 : mx 0 (wrap64 (((n + 1 : Nat) : Int) - (rd_T71 l j).f0)) = ((n + 1 - (rd_T71 l j).f0.toNat : Nat) : Int) := by
        rw [mx_max]; unfold wrap64; omega
      obtain ⟨r, hr, h1, h2, h3, h4⟩ := taken_least hb hl hN k (n + 1 - (rd_T71 l j).f0.toNat) (acc ++ [(j : Int)]) (by omega) (by omega) (by simp; omega)
      refine ⟨(j : Int) :: r, ?_, by simp; omega, fun x hx => ?_, ?_, ?_⟩
      · unfold takenRaw.l0
        rw [hlast, if_pos (by omega), if_pos (by omega), if_pos (by rw [hlen]; omega), if_pos (by omega), if_pos (by omega), if_pos (by omega), if_pos (by omega), e1, hr]
        simp
      · rcases List.mem_cons.1 hx with rfl | hx
        · omega
        · exact h2 x hx
      · unfold ticksOf at h3 ⊢
        rw [List.map_cons, List.sum_cons]; omega
      · unfold amountOf at h4 ⊢
        rw [List.map_cons, List.sum_cons, h4, hm]; omega
end Go.Proofs.Ythoeindopljmkaa.P
end
section
namespace Go.Proofs.Ythoeindopljmkaa.P
open Go.RowKit Go.Proofs.YthoeindopljmkaaW.PrintWords Go.Proofs.YthoeindopljmkaaW.PrintLast Go.Proofs.YthoeindopljmkaaW.PrintMore
open Pm
def cb (l : List S71) : Int := if l.length = 0 then 4 else if 5 < l.length then 5 else if (l.any fun x => !good x) = true then 3 else 0
theorem cb_f (l : List S71) : pump_CheckBounds.f l = some (cb l) := by
  unfold pump_CheckBounds.f cb
  by_cases c : l.length = 0
  · rw [if_pos (by omega), if_pos c]
  · rw [if_neg (by omega), if_neg c]
    by_cases c5 : 5 < l.length
    · rw [if_pos (by omega), if_pos c5]
    · rw [if_neg (by omega), if_neg c5]
      unfold any_bad.f
      rw [if_pos (by omega), Option.bind_some]
      split <;> rfl
def rgd (l : List S71) (a : Int) : Int := if cb l = 0 then (if btw 0 a 200 = true then 0 else 3) else cb l
theorem ranged_f (l : List S71) (a : Int) : pump_ranged.f l a = some (rgd l a) := by
  unfold pump_ranged.f rgd
  rw [cb_f, Option.bind_some, btw_f, Option.bind_some]
  by_cases c : cb l = 0
  · rw [if_pos c, if_pos c]
    split
    · rw [c]
    · rfl
  · rw [if_neg c, if_neg c]
theorem cb_zero {l : List S71} : cb l = 0 ↔ l.length ≠ 0 ∧ l.length ≤ 5 ∧ ∀ b ∈ l, good b = true := by
  unfold cb
  by_cases c : l.length = 0
  · rw [if_pos c]; constructor
    · intro h; cases h
    · rintro ⟨h, _⟩; exact absurd c h
  rw [if_neg c]
  by_cases c5 : 5 < l.length
  · rw [if_pos c5]; constructor
    · intro h; cases h
    · rintro ⟨_, h, _⟩; omega
  rw [if_neg c5]
  by_cases ca : (l.any fun x => !good x) = true
  · rw [if_pos ca]; constructor
    · intro h; cases h
    · rintro ⟨_, _, h⟩
      obtain ⟨x, hx, hg⟩ := List.any_eq_true.1 ca
      rw [h x hx] at hg; cases hg
  · rw [if_neg ca]
    refine ⟨fun _ => ⟨c, by omega, fun b hb => ?_⟩, fun _ => rfl⟩
    cases hg : good b
    · exact absurd (List.any_eq_true.2 ⟨b, hb, by rw [hg]; rfl⟩) ca
    · rfl
theorem good_iff {x : S71} : good x = true ↔ (1 ≤ x.f0 ∧ x.f0 ≤ 100) ∧ 0 ≤ x.f1 ∧ x.f1 ≤ 1000000 := by
  unfold good
  rw [Bool.and_eq_true, btw_iff, btw_iff]
theorem bds_of {l : List S71} (h : cb l = 0) : Bds (bs l) ∧ l.length ≤ 5 := by
  obtain ⟨h0, h5, hg⟩ := cb_zero.1 h
  refine ⟨⟨?_, ?_, ?_⟩, h5⟩
  · intro e
    have : (bs l).length = 0 := by rw [e]; rfl
    simp [bs] at this
    exact h0 (by rw [this]; rfl)
  · intro b hb
    obtain ⟨x, hx, rfl⟩ := List.mem_map.1 hb
    exact (good_iff.1 (hg x hx)).1
  · intro b hb
    obtain ⟨x, hx, rfl⟩ := List.mem_map.1 hb
    exact (good_iff.1 (hg x hx)).2
theorem rgd_zero {l : List S71} {a : Int} (h : rgd l a = 0) : cb l = 0 ∧ 0 ≤ a ∧ a ≤ 200 := by
  unfold rgd at h
  by_cases c : cb l = 0
  · rw [if_pos c] at h
    by_cases b : btw 0 a 200 = true
    · exact ⟨c, btw_iff.1 b⟩
    · rw [if_neg b] at h; cases h
  · rw [if_neg c] at h; exact absurd h c
theorem sum_perm {x y : List Int} (h : x.Perm y) : x.sum = y.sum := by
  induction h with
  | nil => rfl
  | cons a _ ih => simp only [List.sum_cons, ih]
  | swap a b l => simp only [List.sum_cons]; omega
  | trans _ _ h1 h2 => exact h1.trans h2
theorem sortI_perm (r : List Int) : (sortI r).Perm r := List.mergeSort_perm _ _
theorem sortI_sorted (r : List Int) : (sortI r).Pairwise fun x y => x ≤ y := by
  have h := List.pairwise_mergeSort (le := fun x y : Int => decide (x ≤ y)) (fun a b c h1 h2 => by simp at *; omega) (fun a b => by simp; omega) r
  exact h.imp (fun h => by simpa using h)
theorem ticks_sort (l : List S71) (r : List Int) : ticksOf l (sortI r) = ticksOf l r := sum_perm ((sortI_perm r).map _)
theorem amount_sort (l : List S71) (r : List Int) : amountOf l (sortI r) = amountOf l r := sum_perm ((sortI_perm r).map _)
structure Ord (l : List S71) (r : List Int) : Prop where
  len : r.length ≤ 200
  at_ : ∀ j ∈ r, 0 ≤ j ∧ j < l.length
  up : r.Pairwise fun x y => x ≤ y
theorem asked_most_f (l : List S71) (a : Int) : ∃ r, asked_most.f l a l = some (if rgd l a = 0 then mst (bs l) a.toNat else 0, r, rgd l a) ∧ (rgd l a ≠ 0 → r = []) ∧ (rgd l a = 0 → Ord l r ∧ a ≤ ticksOf l r ∧ amountOf l r = mst (bs l) a.toNat) := by
  unfold asked_most.f
  rw [ranged_f, Option.bind_some]
  by_cases c : rgd l a = 0
  · obtain ⟨h1, h2, h3⟩ := rgd_zero c
    obtain ⟨hb, h5⟩ := bds_of h1
    obtain ⟨n, rfl⟩ := Int.eq_ofNat_of_zero_le h2
    rw [if_pos c, if_pos c, tabled_most_f hb (by omega) (by omega), Option.bind_some, if_pos h2]
    have hl := (tabF_len (stepM (bs l)) n).1
    obtain ⟨r, hr, r1, r2, r3, r4⟩ := taken_most hb (by omega) (by omega) (((n : Nat) : Int).toNat + 2) n [] (Nat.le_refl _) (by omega) (by simp; omega)
    refine ⟨sortI r, ?_, fun h => absurd c h, fun _ => ⟨⟨?_, ?_, sortI_sorted r⟩, ?_, ?_⟩⟩
    · rw [if_pos (by omega)]
      unfold pump_bounds_taken.f takenRaw.f
      rw [hr, Option.bind_some, if_pos (by rw [List.nil_append]; omega), Option.bind_some, List.nil_append, c]
      congr 2
    · rw [(sortI_perm r).length_eq]; omega
    · intro j hj; exact r2 j ((sortI_perm r).mem_iff.1 hj)
    · rw [ticks_sort]; exact r3
    · rw [amount_sort]; exact r4
  · rw [if_neg c, if_neg c]
    exact ⟨[], rfl, fun _ => rfl, fun h => absurd h c⟩
theorem asked_least_f (l : List S71) (a : Int) : ∃ r, asked_least.f l a l = some (if rgd l a = 0 then lst (bs l) a.toNat else 0, r, rgd l a) ∧ (rgd l a ≠ 0 → r = []) ∧ (rgd l a = 0 → Ord l r ∧ ticksOf l r ≤ a ∧ amountOf l r = lst (bs l) a.toNat) := by
  unfold asked_least.f
  rw [ranged_f, Option.bind_some]
  by_cases c : rgd l a = 0
  · obtain ⟨h1, h2, h3⟩ := rgd_zero c
    obtain ⟨hb, h5⟩ := bds_of h1
    obtain ⟨n, rfl⟩ := Int.eq_ofNat_of_zero_le h2
    rw [if_pos c, if_pos c, tabled_least_f hb (by omega) (by omega), Option.bind_some, if_pos h2]
    have hl := (tabF_len (stepL (bs l)) n).1
    obtain ⟨r, hr, r1, r2, r3, r4⟩ := taken_least hb (by omega) (by omega) (((n : Nat) : Int).toNat + 2) n [] (Nat.le_refl _) (by omega) (by simp; omega)
    refine ⟨sortI r, ?_, fun h => absurd c h, fun _ => ⟨⟨?_, ?_, sortI_sorted r⟩, ?_, ?_⟩⟩
    · rw [if_pos (by omega)]
      unfold pump_bounds_taken.f takenRaw.f
      rw [hr, Option.bind_some, if_pos (by rw [List.nil_append]; omega), Option.bind_some, List.nil_append, c]
      congr 2
    · rw [(sortI_perm r).length_eq]; omega
    · intro j hj; exact r2 j ((sortI_perm r).mem_iff.1 hj)
    · rw [ticks_sort]; exact r3
    · rw [amount_sort]; exact r4
  · rw [if_neg c, if_neg c]
    exact ⟨[], rfl, fun _ => rfl, fun h => absurd h c⟩
theorem Most_f (l : List S71) (a : Int) : pump_Most.f l a = some (if rgd l a = 0 then mst (bs l) a.toNat else 0, rgd l a) := by
  obtain ⟨r, h, _⟩ := asked_most_f l a
  unfold pump_Most.f
  rw [h]; rfl
theorem Least_f (l : List S71) (a : Int) : pump_Least.f l a = some (if rgd l a = 0 then lst (bs l) a.toNat else 0, rgd l a) := by
  obtain ⟨r, h, _⟩ := asked_least_f l a
  unfold pump_Least.f
  rw [h]; rfl
end Go.Proofs.Ythoeindopljmkaa.P
end
section
namespace Go.Proofs.Ythoeindopljmkaa.P
open Go.RowKit Go.Proofs.YthoeindopljmkaaW.PrintWords Go.Proofs.YthoeindopljmkaaW.PrintLast Go.Proofs.YthoeindopljmkaaW.PrintMore
open Pm
def c90 (x : S71) : S90 := ⟨x.f0, x.f1⟩
def g90 (l : List S71) : List S90 := l.map c90
theorem g90_len (l : List S71) : (g90 l).length = l.length := by simp [g90]
theorem g90_get (l : List S71) (i : Nat) : rd_T90 (g90 l) i = ⟨(rd_T71 l i).f0, (rd_T71 l i).f1⟩ := by
  unfold rd_T90 rd_T71 g90
  rw [List.getD_eq_getElem?_getD, List.getD_eq_getElem?_getD, List.getElem?_map, Int.toNat_natCast]
  cases h : l[i]? with
  | none => rfl
  | some x => rfl
theorem given_l0 (l : List S71) (hl : l.length ≤ 1000000) : ∀ (m i : Nat), i + m = l.length → Ev (fun k => pianolalaw04_given.l0 k l (g90 (l.take i)) i) (g90 l)
  | 0, i, h => by
    refine Ev.step (f := fun _ => some (g90 l)) (fun k => ?_) (Ev.now _)
    rw [pianolalaw04_given.l0, if_neg (by omega), List.take_of_length_le (by omega)]
  | m + 1, i, h => by
    refine Ev.step (fun k => ?_) (given_l0 l hl m (i + 1) (by omega))
    rw [pianolalaw04_given.l0, if_pos (by omega), if_pos (by omega), if_pos (by rw [g90_len, List.length_take]; omega), show wrap64 ((i : Int) + 1) = ((i + 1 : Nat) : Int) by unfold wrap64; omega]
    congr 1
    have hi : i < l.length := by omega
    rw [List.take_succ_eq_append_getElem hi]
    unfold g90
    rw [List.map_append]
    congr 1
    show _ = [c90 l[i]]
    have : rd_T71 l i = l[i] := by unfold rd_T71; rw [List.getD_eq_getElem?_getD, Int.toNat_natCast, List.getElem?_eq_getElem hi]; rfl
    rw [this]; rfl
theorem given_f (l : List S71) (hl : l.length ≤ 1000000) : Ev (fun k => pianolalaw04_given.f k l) (g90 l) := by
  have := given_l0 l hl l.length 0 (by omega)
  simpa [pianolalaw04_given.f, g90] using this
theorem isf (a b c : Int) : pianolaref04_is.f a b c = some (isB a b c) := by
  unfold pianolaref04_is.f isB
  by_cases h : a ≥ b
  · rw [if_pos h, decide_eq_true (show b ≤ a from h)]; rfl
  · rw [if_neg h, decide_eq_false (show ¬ b ≤ a from h)]; rfl
theorem good_is (x : S71) : good x = (isB x.f0 1 100 && isB x.f1 0 1000000) := by
  rw [Bool.eq_iff_iff, good_iff]
  unfold isB
  simp only [Bool.and_eq_true, decide_eq_true_eq]
theorem check_l0 (l : List S71) (hl : l.length ≤ 5) : ∀ (m i : Nat), i + m = l.length → Ev (fun k => pianolaref04_CheckBounds.l0 k (g90 l) i) (if ((l.drop i).any fun x => !good x) = true then 3 else 0)
  | 0, i, h => by
    refine Ev.step (f := fun _ => some 0) (fun k => ?_) (by rw [List.drop_eq_nil_of_le (by omega)]; exact Ev.now _)
    rw [pianolaref04_CheckBounds.l0, if_neg (by rw [g90_len]; omega)]
  | m + 1, i, h => by
    have hi : i < l.length := by omega
    have e : l.drop i = rd_T71 l i :: l.drop (i + 1) := by
      rw [List.drop_eq_getElem_cons hi]; congr 1
      unfold rd_T71; rw [List.getD_eq_getElem?_getD, Int.toNat_natCast, List.getElem?_eq_getElem hi]; rfl
    rw [e, List.any_cons, good_is]
    by_cases c1 : isB (rd_T71 l i).f0 1 100 = true
    · by_cases c2 : isB (rd_T71 l i).f1 0 1000000 = true
      · rw [c1, c2]
        refine Ev.step (fun k => ?_) (check_l0 l hl m (i + 1) (by omega))
        rw [pianolaref04_CheckBounds.l0, if_pos (by rw [g90_len]; omega), if_pos (by omega), isf, Option.bind_some, g90_get, if_pos c1, isf, Option.bind_some, if_pos c2, show wrap64 ((i : Int) + 1) = ((i + 1 : Nat) : Int) by unfold wrap64; omega]
      · have c2' := Bool.eq_false_iff.mpr c2
        rw [c1, c2']
        refine Ev.step (f := fun _ => some 3) (fun k => ?_) (Ev.now _)
        rw [pianolaref04_CheckBounds.l0, if_pos (by rw [g90_len]; omega), if_pos (by omega), isf, Option.bind_some, g90_get, if_pos c1, isf, Option.bind_some, if_neg c2]
    · have c1' := Bool.eq_false_iff.mpr c1
      rw [c1']
      refine Ev.step (f := fun _ => some 3) (fun k => ?_) (Ev.now _)
      rw [pianolaref04_CheckBounds.l0, if_pos (by rw [g90_len]; omega), if_pos (by omega), isf, Option.bind_some, g90_get, if_neg c1]
theorem refcheck_f (l : List S71) : Ev (fun k => pianolaref04_CheckBounds.f k (g90 l)) (cb l) := by
  unfold pianolaref04_CheckBounds.f cb
  rw [g90_len]
  by_cases c : l.length = 0
  · rw [if_pos c]; simp only [if_pos (show (l.length : Int) = 0 by omega)]; exact Ev.now _
  · rw [if_neg c]; simp only [if_neg (show ¬ (l.length : Int) = 0 by omega)]
    by_cases c5 : 5 < l.length
    · rw [if_pos c5]; simp only [if_pos (show (l.length : Int) > 5 by omega)]; exact Ev.now _
    · rw [if_neg c5]; simp only [if_neg (show ¬ (l.length : Int) > 5 by omega)]
      exact check_l0 l (by omega) l.length 0 (by omega)
theorem btw_is (a : Int) : btw 0 a 200 = isB a 0 200 := by
  rw [Bool.eq_iff_iff]; unfold btw isB
  simp only [Bool.and_eq_true, decide_eq_true_eq]
theorem refranged_f (l : List S71) (a : Int) : Ev (fun k => pianolaref04_ranged.f k (g90 l) a) (rgd l a) := by
  unfold pianolaref04_ranged.f rgd
  refine Ev.bind (refcheck_f l) ?_
  rw [btw_is]
  by_cases c : cb l = 0
  · simp only [if_pos c, isf, Option.bind_some]
    by_cases c2 : isB a 0 200 = true
    · simp only [if_pos c2]; rw [c]; exact Ev.now _
    · simp only [if_neg c2]; exact Ev.now _
  · simp only [if_neg c]; exact Ev.now _
theorem mosts_l1 {l : List S71} (hb : Bds (bs l)) (hl : l.length ≤ 1000) (a : Int) (s : List Int) (hs : Small s) (hn : 0 < s.length) (hn2 : s.length ≤ 1000) (r : List Int) : ∀ (m i : Nat), i + m = l.length → ∀ (best kk : Int), (i = 0 → best = -1) → (0 < i → 0 ≤ best) →
  Ev (fun k => pianolaref04_mosts.l0 k (g90 l) a (s ++ [(minFrom (fun b => s.getD (max 0 ((s.length : Int) - b.1)).toNat 0 + b.2) ((bs l).drop i) i best kk).1]) ((s.length + 1 : Nat) : Int)) r →
  Ev (fun k => pianolaref04_mosts.l1 k (g90 l) a s s.length best i) r
 | 0, i, h, best, kk, h0, h1, hr => by
  refine Ev.step (fun k => ?_) hr
  rw [pianolaref04_mosts.l1, if_neg (by rw [g90_len]; omega), if_pos (by omega), List.drop_eq_nil_of_le (by simp [bs]; omega), show wrap64 ((s.length : Int) + 1) = ((s.length + 1 : Nat) : Int) by unfold wrap64; omega]
  rfl
 | m + 1, i, h, best, kk, h0, h1, hr => by
  have c : i < l.length := by omega
  have hm : ((rd_T71 l i).f0, (rd_T71 l i).f1) ∈ bs l := List.mem_of_mem_drop (i := i) (by rw [bs_drop l c]; exact List.mem_cons_self)
  have ht := hb.t _ hm
  have ha := hb.a _ hm
  dsimp only at ht ha
  have e1 : wrap64 ((s.length : Int) - (rd_T71 l i).f0) = (s.length : Int) - (rd_T71 l i).f0 := by unfold wrap64; omega
  have e2 : wrap64 ((i : Int) + 1) = ((i + 1 : Nat) : Int) := by unfold wrap64; omega
  have hj := hs (max 0 ((s.length : Int) - (rd_T71 l i).f0)).toNat
  have e3 : wrap64 (rd s (mx 0 (wrap64 ((s.length : Int) - (rd_T71 l i).f0))) + (rd_T71 l i).f1) = s.getD (max 0 ((s.length : Int) - (rd_T71 l i).f0)).toNat 0 + (rd_T71 l i).f1 := by
   rw [e1, mx_max]
   show wrap64 (s.getD _ 0 + _) = _
   unfold wrap64; omega
  rw [bs_drop l c] at hr
  unfold minFrom at hr
  dsimp only at hr
  have ih := fun best kk h0 h1 hr => mosts_l1 hb hl a s hs hn hn2 r m (i + 1) (by omega) best kk h0 h1 hr
  have open_ : ∀ k, pianolaref04_mosts.l1 (k + 1) (g90 l) a s s.length best i = if best < 0 then pianolaref04_mosts.l1 k (g90 l) a s s.length (s.getD (max 0 ((s.length : Int) - (rd_T71 l i).f0)).toNat 0 + (rd_T71 l i).f1) ((i + 1 : Nat) : Int)
    else if s.getD (max 0 ((s.length : Int) - (rd_T71 l i).f0)).toNat 0 + (rd_T71 l i).f1 < best then pianolaref04_mosts.l1 k (g90 l) a s s.length (s.getD (max 0 ((s.length : Int) - (rd_T71 l i).f0)).toNat 0 + (rd_T71 l i).f1) ((i + 1 : Nat) : Int)
    else pianolaref04_mosts.l1 k (g90 l) a s s.length best ((i + 1 : Nat) : Int) := fun k => by
   rw [pianolaref04_mosts.l1, g90_get, if_pos (by rw [g90_len]; omega), if_pos (by omega), if_pos (by rw [e1, mx_max]; omega), if_pos (by rw [e1, mx_max]; omega), e3, e2]
  by_cases c0 : i = 0
  ·
   have hb0 := h0 c0
   rw [if_pos (.inl (by omega))] at hr
   refine Ev.step (fun k => ?_) (ih _ i (by omega) (fun _ => by omega) hr)
   rw [open_, if_pos (by omega)]
  ·
   have hb1 := h1 (by omega)
   by_cases c4 : s.getD (max 0 ((s.length : Int) - (rd_T71 l i).f0)).toNat 0 + (rd_T71 l i).f1 < best
   ·
    rw [if_pos (.inr c4)] at hr
    refine Ev.step (fun k => ?_) (ih _ i (by omega) (fun _ => by omega) hr)
    rw [open_, if_neg (by omega), if_pos c4]
   ·
    rw [if_neg (by rintro (hh | hh); omega; exact c4 hh)] at hr
    refine Ev.step (fun k => ?_) (ih _ kk (by omega) (fun _ => by omega) hr)
    rw [open_, if_neg (by omega), if_neg c4]
theorem minFrom_start (f : B2 → Int) {L : List B2} (h : L ≠ []) (s k : Int) : minFrom f L 0 s k = minFrom f L 0 0 0 := by
  cases L with
  | nil => exact absurd rfl h
  | cons b r => simp only [minFrom, true_or, if_true]
theorem mosts_l0 {l : List S71} (hb : Bds (bs l)) (hl : l.length ≤ 1000) (a : Nat) (ha : a ≤ 500) : ∀ (m n : Nat), n + m = a → Ev (fun k => pianolaref04_mosts.l0 k (g90 l) a (tabF (stepM (bs l)) n).1 ((n + 1 : Nat) : Int)) (tabF (stepM (bs l)) a).1
  | 0, n, h => by
    obtain rfl : n = a := by omega
    refine Ev.step (f := fun _ => some (tabF (stepM (bs l)) n).1) (fun k => ?_) (Ev.now _)
    rw [pianolaref04_mosts.l0, if_neg (by omega)]
  | m + 1, n, h => by
    have l1 := (tabF_len (stepM (bs l)) n).1
    have ih := mosts_l0 hb hl a ha m (n + 1) (by omega)
    refine Ev.step (fun k => ?_) (mosts_l1 hb hl a (tabF (stepM (bs l)) n).1 (small_most hb (by omega)) (by omega) (by omega) _ l.length 0 (by omega) (-1) 0 (fun _ => rfl) (fun h => by omega) ?_)
    · rw [pianolaref04_mosts.l0, if_pos (by omega), l1]; rfl
    · rw [List.drop_zero]
      simp only [Int.natCast_zero]
      rw [minFrom_start _ hb.ne]
      have e : (tabF (stepM (bs l)) (n + 1)).1 = (tabF (stepM (bs l)) n).1 ++ [(minFrom (fun b => (tabF (stepM (bs l)) n).1.getD (max 0 (((tabF (stepM (bs l)) n).1.length : Int) - b.1)).toNat 0 + b.2) (bs l) 0 0 0).1] := rfl
      rw [e, show n + 1 + 1 = (tabF (stepM (bs l)) n).1.length + 1 by omega] at ih
      exact ih
theorem mosts_f {l : List S71} (hb : Bds (bs l)) (hl : l.length ≤ 1000) (a : Nat) (ha : a ≤ 500) : Ev (fun k => pianolaref04_mosts.f k (g90 l) a) (tabF (stepM (bs l)) a).1 :=
  mosts_l0 hb hl a ha a 0 (by omega)
theorem leasts_l1 {l : List S71} (hb : Bds (bs l)) (hl : l.length ≤ 1000) (a : Int) (s : List Int) (hs : Small s) (hn : 0 < s.length) (hn2 : s.length ≤ 1000) (r : List Int) : ∀ (m i : Nat), i + m = l.length → ∀ (best kk : Int),
    Ev (fun k => pianolaref04_leasts.l0 k (g90 l) a (s ++ [(maxFrom (s.length : Int) (fun b => s.getD ((s.length : Int) - b.1).toNat 0 + b.2) ((bs l).drop i) i best kk).1]) ((s.length + 1 : Nat) : Int)) r →
    Ev (fun k => pianolaref04_leasts.l1 k (g90 l) a s s.length best i) r
  | 0, i, h, best, kk, hr => by
    refine Ev.step (fun k => ?_) hr
    rw [pianolaref04_leasts.l1, if_neg (by rw [g90_len]; omega), if_pos (by omega), List.drop_eq_nil_of_le (by simp [bs]; omega), show wrap64 ((s.length : Int) + 1) = ((s.length + 1 : Nat) : Int) by unfold wrap64; omega]
    rfl
  | m + 1, i, h, best, kk, hr => by
    have c : i < l.length := by omega
    have hm : ((rd_T71 l i).f0, (rd_T71 l i).f1) ∈ bs l := List.mem_of_mem_drop (i := i) (by rw [bs_drop l c]; exact List.mem_cons_self)
    have ht := hb.t _ hm
    have ha := hb.a _ hm
    dsimp only at ht ha
    have e2 : wrap64 ((i : Int) + 1) = ((i + 1 : Nat) : Int) := by unfold wrap64; omega
    rw [bs_drop l c] at hr
    unfold maxFrom at hr
    dsimp only at hr
    have ih := fun best kk hr => leasts_l1 hb hl a s hs hn hn2 r m (i + 1) (by omega) best kk hr
    by_cases c0 : (rd_T71 l i).f0 ≤ (s.length : Int)
    · have e1 : wrap64 ((s.length : Int) - (rd_T71 l i).f0) = (s.length : Int) - (rd_T71 l i).f0 := by unfold wrap64; omega
      have hj := hs ((s.length : Int) - (rd_T71 l i).f0).toNat
      have e3 : wrap64 (rd s (wrap64 ((s.length : Int) - (rd_T71 l i).f0)) + (rd_T71 l i).f1) = s.getD ((s.length : Int) - (rd_T71 l i).f0).toNat 0 + (rd_T71 l i).f1 := by
        rw [e1]
        show wrap64 (s.getD _ 0 + _) = _
        unfold wrap64; omega
      have open_ : ∀ k, pianolaref04_leasts.l1 (k + 1) (g90 l) a s s.length best i = pianolaref04_leasts.l1 k (g90 l) a s s.length (max best (s.getD ((s.length : Int) - (rd_T71 l i).f0).toNat 0 + (rd_T71 l i).f1)) ((i + 1 : Nat) : Int) := fun k => by
        rw [pianolaref04_leasts.l1, g90_get, if_pos (by rw [g90_len]; omega), if_pos (by omega), if_pos c0, if_pos (by rw [e1]; omega), if_pos (by rw [e1]; omega), e3, e2, mx_max]
      by_cases c4 : s.getD ((s.length : Int) - (rd_T71 l i).f0).toNat 0 + (rd_T71 l i).f1 > best
      · rw [if_pos ⟨c0, c4⟩] at hr
        refine Ev.step (fun k => ?_) (ih _ i hr)
        rw [open_, Int.max_eq_right (by omega)]
      · rw [if_neg (fun hh => c4 hh.2)] at hr
        refine Ev.step (fun k => ?_) (ih _ kk hr)
        rw [open_, Int.max_eq_left (by omega)]
    · rw [if_neg (fun hh => c0 hh.1)] at hr
      refine Ev.step (fun k => ?_) (ih _ kk hr)
      rw [pianolaref04_leasts.l1, g90_get, if_pos (by rw [g90_len]; omega), if_pos (by omega), if_neg c0, e2]
theorem leasts_l0 {l : List S71} (hb : Bds (bs l)) (hl : l.length ≤ 1000) (a : Nat) (ha : a ≤ 500) : ∀ (m n : Nat), n + m = a → Ev (fun k => pianolaref04_leasts.l0 k (g90 l) a (tabF (stepL (bs l)) n).1 ((n + 1 : Nat) : Int)) (tabF (stepL (bs l)) a).1
  | 0, n, h => by
    obtain rfl : n = a := by omega
    refine Ev.step (f := fun _ => some (tabF (stepL (bs l)) n).1) (fun k => ?_) (Ev.now _)
    rw [pianolaref04_leasts.l0, if_neg (by omega)]
  | m + 1, n, h => by
    have l1 := (tabF_len (stepL (bs l)) n).1
    have ih := leasts_l0 hb hl a ha m (n + 1) (by omega)
    have w1 : wrap64 (((n + 1 : Nat) : Int) - 1) = (n : Int) := by unfold wrap64; omega
    refine Ev.step (fun k => ?_) (leasts_l1 hb hl a (tabF (stepL (bs l)) n).1 (small_least hb (by omega)) (by omega) (by omega) _ l.length 0 (by omega) ((tabF (stepL (bs l)) n).1.getD n 0) (-1) ?_)
    · rw [pianolaref04_leasts.l0, if_pos (by omega), w1, if_pos (by omega), if_pos (by omega), l1]; rfl
    · rw [List.drop_zero]
      have e : (tabF (stepL (bs l)) (n + 1)).1 = (tabF (stepL (bs l)) n).1 ++ [(maxFrom ((tabF (stepL (bs l)) n).1.length : Int) (fun b => (tabF (stepL (bs l)) n).1.getD (((tabF (stepL (bs l)) n).1.length : Int) - b.1).toNat 0 + b.2) (bs l) 0 ((tabF (stepL (bs l)) n).1.getD ((tabF (stepL (bs l)) n).1.length - 1) 0) (-1)).1] := rfl
      rw [e, show n + 1 + 1 = (tabF (stepL (bs l)) n).1.length + 1 by omega, show (tabF (stepL (bs l)) n).1.length - 1 = n by omega] at ih
      exact ih
theorem leasts_f {l : List S71} (hb : Bds (bs l)) (hl : l.length ≤ 1000) (a : Nat) (ha : a ≤ 500) : Ev (fun k => pianolaref04_leasts.f k (g90 l) a) (tabF (stepL (bs l)) a).1 :=
  leasts_l0 hb hl a ha a 0 (by omega)
theorem refMost_f (l : List S71) (a : Int) : Ev (fun k => pianolaref04_Most.f k (g90 l) a) (if rgd l a = 0 then mst (bs l) a.toNat else 0, rgd l a) := by
  unfold pianolaref04_Most.f
  refine Ev.bind (refranged_f l a) ?_
  by_cases c : rgd l a = 0
  · obtain ⟨h1, h2, h3⟩ := rgd_zero c
    obtain ⟨hb, h5⟩ := bds_of h1
    obtain ⟨n, rfl⟩ := Int.eq_ofNat_of_zero_le h2
    simp only [if_pos c]
    refine Ev.bind (mosts_f hb (by omega) n (by omega)) ?_
    simp only [(tabF_len (stepM (bs l)) n).1]
    simp only [if_pos (show (0 : Int) ≤ (n : Int) by omega), if_pos (show (n : Int) < ((n + 1 : Nat) : Int) by omega)]
    rw [c]
    exact Ev.now _
  · simp only [if_neg c]
    exact Ev.now _
theorem refLeast_f (l : List S71) (a : Int) : Ev (fun k => pianolaref04_Least.f k (g90 l) a) (if rgd l a = 0 then lst (bs l) a.toNat else 0, rgd l a) := by
  unfold pianolaref04_Least.f
  refine Ev.bind (refranged_f l a) ?_
  by_cases c : rgd l a = 0
  · obtain ⟨h1, h2, h3⟩ := rgd_zero c
    obtain ⟨hb, h5⟩ := bds_of h1
    obtain ⟨n, rfl⟩ := Int.eq_ofNat_of_zero_le h2
    simp only [if_pos c]
    refine Ev.bind (leasts_f hb (by omega) n (by omega)) ?_
    simp only [(tabF_len (stepL (bs l)) n).1]
    simp only [if_pos (show (0 : Int) ≤ (n : Int) by omega), if_pos (show (n : Int) < ((n + 1 : Nat) : Int) by omega)]
    rw [c]
    exact Ev.now _
  · simp only [if_neg c]
    exact Ev.now _
end Go.Proofs.Ythoeindopljmkaa.P
end
section
namespace Go.Proofs.Ythoeindopljmkaa.P
open Go.RowKit Go.Proofs.YthoeindopljmkaaW.PrintWords Go.Proofs.YthoeindopljmkaaW.PrintLast Go.Proofs.YthoeindopljmkaaW.PrintMore
open Pm
theorem chosen_ord {l : List S71} (hc : cb l = 0) : ∀ (r : List Int) (p : Option Int) (t a : Int), (∀ j ∈ r, 0 ≤ j ∧ j < l.length) → (r.Pairwise fun x y => x ≤ y) → (∀ y, p = some y → ∀ j ∈ r, y ≤ j) →
    0 ≤ t → t + 1000000 * r.length ≤ 1000000000000 → 0 ≤ a → a + 1000000 * r.length ≤ 1000000000000 → chosenL (g90 l) p t a r = (t + ticksOf l r, a + amountOf l r, true)
  | [], p, t, a, _, _, _, _, _, _, _ => by simp [chosenL, ticksOf, amountOf]
  | x :: r, p, t, a, h1, h2, h3, ht, ht2, ha, ha2 => by
    have hx := h1 x List.mem_cons_self
    have hb : isB x 0 (((g90 l).length : Int) - 1) = true := by
      rw [g90_len]; unfold isB; simp only [Bool.and_eq_true, decide_eq_true_eq]; omega
    obtain ⟨n, rfl⟩ := Int.eq_ofNat_of_zero_le hx.1
    have hm : rd_T71 l (n : Int) ∈ l := by
      unfold rd_T71; rw [List.getD_eq_getElem?_getD, Int.toNat_natCast, List.getElem?_eq_getElem (by omega)]; exact List.getElem_mem _
    have hg := good_iff.1 ((cb_zero.1 hc).2.2 _ hm)
    simp only [List.length_cons] at ht2 ha2
    unfold chosenL
    rw [if_neg (by rw [hb]; simp)]
    rw [if_neg (by
      cases p with
      | none => simp
      | some y =>
        have := h3 y rfl _ List.mem_cons_self
        simp only [decide_eq_true_eq]
        omega)]
    rw [g90_get]
    dsimp only
    rw [show wrap64 (t + (rd_T71 l (n : Int)).f0) = t + (rd_T71 l (n : Int)).f0 by unfold wrap64; omega, show wrap64 (a + (rd_T71 l (n : Int)).f1) = a + (rd_T71 l (n : Int)).f1 by unfold wrap64; omega]
    rw [List.pairwise_cons] at h2
    rw [chosen_ord hc r (some (n : Int)) _ _ (fun j hj => h1 j (List.mem_cons_of_mem _ hj)) h2.2 (fun y hy j hj => by injection hy with hy; subst hy; exact h2.1 j hj) (by omega) (by omega) (by omega) (by omega)]
    unfold ticksOf amountOf
    simp only [List.map_cons, List.sum_cons]
    rw [Int.add_assoc, Int.add_assoc]
theorem Chosen_f {l : List S71} (hc : cb l = 0) {r : List Int} (h : Ord l r) : pianolaref04_Chosen.f (g90 l) r = some (ticksOf l r, amountOf l r, true) := by
  have h1 := h.len
  have h2 := (cb_zero.1 hc).2.1
  unfold pianolaref04_Chosen.f
  rw [if_pos ⟨by rw [g90_len]; omega, by omega⟩, chosen_ord hc r none 0 0 h.at_ h.up (fun y hy => by cases hy) (by omega) (by omega) (by omega) (by omega), Int.zero_add, Int.zero_add]
theorem bounds_ev (l : List S71) (a : Int) (hl : l.length ≤ 20) : Ev (fun k => pianolalaw04_PumpBounds.f k l a) true := by
  unfold pianolalaw04_PumpBounds.f
  simp only [if_neg (show ¬ (l.length : Int) > 20 by omega)]
  refine Ev.bind (given_f l (by omega)) ?_
  rw [Most_f, Least_f]
  simp only [Option.bind_some]
  refine Ev.bind (refMost_f l a) ?_
  refine Ev.bind (refLeast_f l a) ?_
  obtain ⟨r, hr, r1, r2⟩ := asked_most_f l a
  obtain ⟨s, hs, s1, s2⟩ := asked_least_f l a
  have e1 : pump_Cover.f l a = some (r, rgd l a) := by unfold pump_Cover.f; rw [hr]; rfl
  have e2 : pump_Pack.f l a = some (s, rgd l a) := by unfold pump_Pack.f; rw [hs]; rfl
  rw [e1, e2, cb_f]
  simp only [Option.bind_some, if_true]
  refine Ev.bind (refcheck_f l) ?_
  simp only [bne_self_eq_false]
  by_cases c : rgd l a = 0
  · obtain ⟨h1, h2, h3⟩ := rgd_zero c
    obtain ⟨p1, p2, p3⟩ := r2 c
    obtain ⟨q1, q2, q3⟩ := s2 c
    refine Ev.step (f := fun _ => some true) (fun k => ?_) (Ev.now _)
    rw [pianolalaw04_PumpBounds.j0, if_neg (by simp), if_pos c, Chosen_f h1 p1, Chosen_f h1 q1]
    simp only [Option.bind_some, if_true, if_pos c]
    rw [if_pos p2, if_pos p3, if_pos q2, if_pos q3]
    rfl
  · refine Ev.step (f := fun _ => some true) (fun k => ?_) (Ev.now _)
    rw [pianolalaw04_PumpBounds.j0, if_neg (by simp), if_neg c, r1 c, s1 c]
    rfl
end Go.Proofs.Ythoeindopljmkaa.P
namespace Go.Proofs.Ythoeindopljmkaa.Pure
open P Go.Proofs.YthoeindopljmkaaW.PrintWords
theorem PumpBounds (l : List S71) (a : Int) (_ : ∀ s ∈ l, (Lit.int .i64 s.f0).wf = true ∧ (Lit.int .i64 s.f1).wf = true) (_ : (Lit.int .i64 a).wf = true) : ∃ k, pianolalaw04_PumpBounds.f k l a = some true := by
  by_cases c : l.length ≤ 20
  · exact (bounds_ev l a c).rounds
  · exact ⟨0, by unfold pianolalaw04_PumpBounds.f; rw [if_pos (by omega)]; rfl⟩
end Go.Proofs.Ythoeindopljmkaa.Pure
end
