/- Words and contracts for a claim. -/
import Derived.Test.YthoeindopljmkaaPumpLacks4
import Derived.OpenShut
import Derived.Deep.Slices
import Derived.ChangeSame
section
namespace Go.Proofs.Ythoeindopljmkaa.P
open Go.ChangeShapes Go.WideShapes Go.Deep Go.RowKit Go.Proofs.YthoeindopljmkaaW.PrintWords
set_option maxRecDepth 100000
set_option linter.unusedVariables false
set_option linter.unusedSimpArgs false
theorem list_two {α : Type} {l : List α} (h : l.length = 2) : ∃ a b, l = [a, b] := by
  match l, h with
  | [a, b], _ => exact ⟨a, b, rfl⟩
end Go.Proofs.Ythoeindopljmkaa.P
end
section
namespace Go.Proofs.Ythoeindopljmkaa.P
open Go.ChangeShapes Go.WideShapes Go.Deep Go.RowKit Go.Proofs.YthoeindopljmkaaW.PrintWords
set_option maxRecDepth 100000
set_option linter.unusedVariables false
set_option linter.unusedSimpArgs false
theorem cells_of_lists {α : Type} {d : Kd α} {T : Nat} {w : World} {a : Addr} {L : List (List α)} {n : Nat} (hl : L.length = n) (hn : n ≤ 9223372036854775807)
    (h : ∀ i (hi : i < L.length), ∃ A c, w.cell? (a.add i) = some (.slice A L[i].length c) ∧ L[i].length ≤ c ∧ Kd.C d w A L[i].length L[i]) : Kd.C (Kd.slice T d) w (some a) n L := by
  refine ⟨hl, hn, fun _ => ⟨a, rfl, fun j p hp => ?_⟩⟩
  obtain ⟨hj, rfl⟩ := List.getElem?_eq_some_iff.1 hp
  obtain ⟨A, c, h0, h1, h2⟩ := h j hj
  refine ⟨[.slice A L[j].length c], rfl, ⟨A, c, rfl, h1, h2⟩, fun i u hu => ?_⟩
  match i, hu with
  | 0, hu => cases hu; show w.cell? (a.add (j * 1 + 0)) = _; rw [Nat.mul_one, Nat.add_zero]; exact h0
  | _ + 1, hu => simp at hu
theorem open_list {α : Type} {d : Kd α} {H : Type} {enc : TypeId × Value → H} {w : World} {base : Nat} {spare : Nat → Bool} {held : Bool} {t e T : TypeId} {fuel : Nat} {A : Option Addr} {len cap : Nat} {x : DataW H × List MemPlace}
    (ht : Try.prog.underlying t = some (.slice e)) (ce : Try.prog.cellsOf e = 1)
    (op : ∀ fuel' cs x', DataW.trod enc Try.prog w base spare held fuel' e cs = some x' → ∃ (l : List α) (A : Option Addr) (c : Nat), cs = [.slice A l.length c] ∧ l.length ≤ c ∧ Kd.C d w A l.length l)
    (h : DataW.trod enc Try.prog w base spare held fuel t [.slice A len cap] = some x) :
    ∃ L : List (List α), Kd.C (Kd.slice T d) w A L.length L ∧ L.length = len ∧ L.length ≤ cap := by
  rcases open_slice ht h with ⟨hcs, _⟩ | ⟨a, len', cap', m, n, D, Pl, hcs, hb, hl, hm, hmm, hx, hi⟩
  · injection hcs with hcs _
    injection hcs with e1 e2 e3
    subst e1 e2 e3
    exact ⟨[], ⟨rfl, by simp, fun h => absurd h (by simp)⟩, rfl, Nat.le_refl _⟩
  · injection hcs with hcs _
    injection hcs with e1 e2 e3
    subst e1 e2 e3
    have hlm : len ≤ m := by rw [hmm]; split <;> omega
    have each : ∀ i, i < len → ∃ l : List α, ∃ A c, w.cell? (a.add i) = some (.slice A l.length c) ∧ l.length ≤ c ∧ Kd.C d w A l.length l := by
      intro i hlt
      obtain ⟨cs', hcc, ht'⟩ := hi i (by omega)
      obtain ⟨l, A, c, rfl, h1, h2⟩ := op _ _ _ ht'
      rw [ce, Nat.mul_one] at hcc
      obtain ⟨_, _, hat⟩ := World.cells?_some hcc
      exact ⟨l, A, c, hat 0 (by omega), h1, h2⟩
    obtain ⟨F, hF⟩ : ∃ F : Nat → List α, ∀ i, i < len → ∃ A c, w.cell? (a.add i) = some (.slice A (F i).length c) ∧ (F i).length ≤ c ∧ Kd.C d w A (F i).length (F i) :=
      ⟨fun i => if h : i < len then Classical.choose (each i h) else [], fun i h => by simp only [dif_pos h]; exact Classical.choose_spec (each i h)⟩
    have hlen : ((List.range len).map F).length = len := by simp
    refine ⟨(List.range len).map F, ?_, hlen, by rw [hlen]; exact hl⟩
    rw [hlen]
    refine cells_of_lists hlen (by unfold maxLen at hm; omega) (fun i hi => ?_)
    simp only [List.getElem_map, List.getElem_range]
    exact hF i (by simpa using hi)
theorem open_22 {H : Type} {enc : TypeId × Value → H} {w : World} {base : Nat} {spare : Nat → Bool} {held : Bool} (fuel : Nat) (cs : List Value) (x : DataW H × List MemPlace)
    (h : DataW.trod enc Try.prog w base spare held fuel 22 cs = some x) : ∃ (l : List S71) (A : Option Addr) (c : Nat), cs = [.slice A l.length c] ∧ l.length ≤ c ∧ Kd.C k71 w A l.length l := by
  rcases DataW.trod_slice Try.underlying22 h with ⟨rfl, _⟩ | ⟨a, len, cap, _, _, _, _, rfl, _⟩
  · exact ⟨[], none, 0, rfl, Nat.le_refl _, ⟨rfl, by simp, fun h => absurd h (by simp)⟩⟩
  · obtain ⟨l, h1, h2, h3, _⟩ := open_shares_22 h
    subst h2
    exact ⟨l, some a, cap, rfl, h3, h1⟩
theorem open_30 {H : Type} {enc : TypeId × Value → H} {w : World} {base : Nat} {spare : Nat → Bool} {held : Bool} (fuel : Nat) (cs : List Value) (x : DataW H × List MemPlace)
    (h : DataW.trod enc Try.prog w base spare held fuel 30 cs = some x) : ∃ (l : List Int) (A : Option Addr) (c : Nat), cs = [.slice A l.length c] ∧ l.length ≤ c ∧ Kd.C (Kd.int .i64) w A l.length l := by
  rcases open_slice Try.underlying30 h with ⟨rfl, _⟩ | ⟨a, len, cap, m, n, D, Pl, rfl, hb, hl, hm, hmm, hx, hi⟩
  · exact ⟨[], none, 0, rfl, Nat.le_refl _, ⟨rfl, by simp, fun h => absurd h (by simp)⟩⟩
  · have hlm : len ≤ m := by rw [hmm]; split <;> omega
    have c3 : Try.prog.cellsOf 3 = 1 := by kernel_rfl
    have each : ∀ i, i < len → ∃ z : Int, w.cell? (a.add i) = some (.int .i64 z) := by
      intro i hlt
      obtain ⟨cs', hcc, ht'⟩ := hi i (by omega)
      rw [c3, Nat.mul_one] at hcc
      obtain ⟨_, hlen, hat⟩ := World.cells?_some hcc
      obtain ⟨c, rfl⟩ := List.length_eq_one_iff.1 hlen
      obtain ⟨z, e0, _, _⟩ := DataW.trod_int Try.underlying3 ht'
      injection e0 with e0
      subst e0
      exact ⟨z, hat 0 (by omega)⟩
    obtain ⟨F, hF⟩ : ∃ F : Nat → Int, ∀ i, i < len → w.cell? (a.add i) = some (.int .i64 (F i)) :=
      ⟨fun i => if h : i < len then Classical.choose (each i h) else 0, fun i h => by simp only [dif_pos h]; exact Classical.choose_spec (each i h)⟩
    have hlen : ((List.range len).map F).length = len := by simp
    refine ⟨(List.range len).map F, some a, cap, by rw [hlen], by rw [hlen]; exact hl, ?_⟩
    rw [hlen]
    refine ⟨hlen, by unfold maxLen at hm; omega, fun _ => ⟨a, rfl, fun j p hp => ?_⟩⟩
    obtain ⟨hj, rfl⟩ := List.getElem?_eq_some_iff.1 hp
    simp only [List.getElem_map, List.getElem_range]
    refine ⟨[.int .i64 (F j)], rfl, rfl, fun i u hu => ?_⟩
    match i, hu with
    | 0, hu => cases hu; show w.cell? (a.add (j * 1 + 0)) = _; rw [Nat.mul_one, Nat.add_zero]; exact hF j (by simpa using hj)
    | _ + 1, hu => simp at hu
theorem two_slices {H : Type} {enc : TypeId × Value → H} {w : World} {base : Nat} {spare : Nat → Bool} {held : Bool} {r : Reach} {b0 : Nat} {v : Value} {d : DataW H} {p : List MemPlace} {t e e2 : TypeId} {f0 f1 : Field}
    (ht : Try.prog.underlying t = some (.struct #[f0, f1])) (c2 : Try.prog.cellsOf t = 2) (o0 : f0.offset = 0) (o1 : f1.offset = 1) (t0 : f0.type = e) (t1 : f1.type = e) (he : Try.prog.underlying e = some (.slice e2)) (ce : Try.prog.cellsOf e = 1)
    (hv : Value.okWide Try.prog w r b0 t v) (h : DataW.Trod enc Try.prog w base spare held t v d p) :
    ∃ A0 n0 c0 A1 n1 c1 fuel x0 x1, v = .agg #[.slice A0 n0 c0, .slice A1 n1 c1] ∧ DataW.trod enc Try.prog w base spare held fuel e [.slice A0 n0 c0] = some x0 ∧ DataW.trod enc Try.prog w base spare held fuel e [.slice A1 n1 c1] = some x1 := by
  simp only [Value.okWide, ht] at hv
  obtain ⟨cs, rfl, h2, _⟩ := hv
  obtain ⟨fuel, hf⟩ := h
  obtain ⟨xs, m, _, hx, hcl, hxl, hg⟩ := DataW.trod_struct ht hf
  rw [c2] at h2 hcl
  obtain ⟨l⟩ := cs
  obtain ⟨a, b, rfl⟩ := list_two (show l.length = 2 from h2)
  obtain ⟨y0, y1, rfl⟩ := list_two (show xs.length = 2 from hxl)
  have h0 := hg 0 f0 rfl
  have h1 := hg 1 f1 rfl
  rw [t0, o0, ce] at h0
  rw [t1, o1, ce] at h1
  have g0 : DataW.trod enc Try.prog w base spare held m e [a] = some y0 := h0
  have g1 : DataW.trod enc Try.prog w base spare held m e [b] = some y1 := h1
  have sl : ∀ (u : Value) y, DataW.trod enc Try.prog w base spare held m e [u] = some y → ∃ A n c, u = .slice A n c := by
    intro u y hu
    rcases DataW.trod_slice he hu with ⟨e, _⟩ | ⟨a, len, cap, _, _, _, _, e, _⟩
    · injection e with e; exact ⟨none, 0, 0, e⟩
    · injection e with e; exact ⟨some a, len, cap, e⟩
  obtain ⟨A0, n0, c0, rfl⟩ := sl a _ g0
  obtain ⟨A1, n1, c1, rfl⟩ := sl b _ g1
  exact ⟨A0, n0, c0, A1, n1, c1, m, y0, y1, rfl, g0, g1⟩
theorem open_plant {H : Type} {enc : TypeId × Value → H} {w : World} {base : Nat} {spare : Nat → Bool} {held : Bool} {r : Reach} {b0 : Nat} {v : Value} {d : DataW H} {p : List MemPlace}
    (hv : Value.okWide Try.prog w r b0 40 v) (h : DataW.Trod enc Try.prog w base spare held 40 v d p) :
    ∃ (A0 : Option Addr) (c0 : Nat) (l0 : List (List S71)) (A1 : Option Addr) (c1 : Nat) (l1 : List (List S71)), v = .agg #[.slice A0 l0.length c0, .slice A1 l1.length c1] ∧ Kd.C (Kd.slice 71 k71) w A0 l0.length l0 ∧ l0.length ≤ c0 ∧ Kd.C (Kd.slice 71 k71) w A1 l1.length l1 ∧ l1.length ≤ c1 := by
  obtain ⟨A0, n0, c0, A1, n1, c1, fuel, x0, x1, rfl, g0, g1⟩ := two_slices (e := 38) (e2 := 22) Try.underlying40 (by kernel_rfl) rfl rfl rfl rfl Try.underlying38 (by kernel_rfl) hv h
  obtain ⟨l0, h0, rfl, h1⟩ := open_list (T := 71) Try.underlying38 (by kernel_rfl) open_22 g0
  obtain ⟨l1, h2, rfl, h3⟩ := open_list (T := 71) Try.underlying38 (by kernel_rfl) open_22 g1
  exact ⟨A0, c0, l0, A1, c1, l1, rfl, h0, h1, h2, h3⟩
theorem open_course {H : Type} {enc : TypeId × Value → H} {w : World} {base : Nat} {spare : Nat → Bool} {held : Bool} {r : Reach} {b0 : Nat} {v : Value} {d : DataW H} {p : List MemPlace}
    (hv : Value.okWide Try.prog w r b0 56 v) (h : DataW.Trod enc Try.prog w base spare held 56 v d p) :
    ∃ (A0 : Option Addr) (c0 : Nat) (l0 : List (List Int)) (A1 : Option Addr) (c1 : Nat) (l1 : List (List Int)), v = .agg #[.slice A0 l0.length c0, .slice A1 l1.length c1] ∧ Kd.C (Kd.slice 3 (Kd.int .i64)) w A0 l0.length l0 ∧ l0.length ≤ c0 ∧ Kd.C (Kd.slice 3 (Kd.int .i64)) w A1 l1.length l1 ∧ l1.length ≤ c1 := by
  obtain ⟨A0, n0, c0, A1, n1, c1, fuel, x0, x1, rfl, g0, g1⟩ := two_slices (e := 54) (e2 := 30) Try.underlying56 (by kernel_rfl) rfl rfl rfl rfl Try.underlying54 (by kernel_rfl) hv h
  obtain ⟨l0, h0, rfl, h1⟩ := open_list (T := 3) Try.underlying54 (by kernel_rfl) open_30 g0
  obtain ⟨l1, h2, rfl, h3⟩ := open_list (T := 3) Try.underlying54 (by kernel_rfl) open_30 g1
  exact ⟨A0, c0, l0, A1, c1, l1, rfl, h0, h1, h2, h3⟩
end Go.Proofs.Ythoeindopljmkaa.P
end
section
namespace Go.Proofs.Ythoeindopljmkaa.P
open Go.RowKit Go.Proofs.YthoeindopljmkaaW.PrintWords Go.Proofs.YthoeindopljmkaaW.PrintLast Go.Proofs.YthoeindopljmkaaW.PrintMore
attribute [local go_sem] max2_int min2_int max_two min_two max_three min_three max_four min_four
set_option linter.unusedVariables false
set_option linter.unusedSimpArgs false
def pianolaref04_is.f (a0 : Int) (a1 : Int) (a2 : Int) : Option (Bool) := if a0 ≥ a1 then (some (decide (a0 ≤ a2))) else (some false)
set_option maxHeartbeats 8000000 in
set_option maxRecDepth 100000 in
theorem pianolaref04_is.calls (a0 : Int) (a1 : Int) (a2 : Int) (r : Bool) (w : World) (h : pianolaref04_is.f a0 a1 a2 = some r) :
    Calls Try.prog 61 #[.int .i64 a0, .int .i64 a1, .int .i64 a2] w fun e w' => e = .returned (.bool r) ∧ Drawn0 w w' := by
  have H : (if a0 ≥ a1 then (some (decide (a0 ≤ a2))) else (some false)) = some r := h
  clear h
  by_cases c4 : a0 ≥ a1
  · rw [if_pos c4] at H
    have c4b0 : decide (a1 ≤ a0) = true := decide_eq_true c4
    clear c4
    obtain rfl := Option.some.inj H
    go_enter Try.func61, Try.ntmps61
    go_wp2
    go_ret
    exact ⟨by first | rfl | (simp; done) | (simp [*]; done), by repeat (first | exact Drawn0.refl _ | apply Drawn0.step)⟩
  · rw [if_neg c4] at H
    have c4b0 : decide (a1 ≤ a0) = false := decide_eq_false c4
    clear c4
    obtain rfl := Option.some.inj H
    go_enter Try.func61, Try.ntmps61
    go_wp2
    go_ret
    exact ⟨by first | rfl | (simp; done) | (simp [*]; done), by repeat (first | exact Drawn0.refl _ | apply Drawn0.step)⟩
end Go.Proofs.Ythoeindopljmkaa.P
end
