/- Words and contracts for a claim. -/
import Derived.Test.YthoeindopljmkaaBase9
import Derived.RangeFuncKeeps
section
namespace Go.Proofs.Ythoeindopljmkaa.P
open Go.RowKit Go.Shelf Go.Proofs.YthoeindopljmkaaW.PrintWords Go.Proofs.YthoeindopljmkaaW.PrintLast Go.Proofs.YthoeindopljmkaaW.PrintMore
set_option linter.unusedVariables false
set_option linter.unusedSimpArgs false
attribute [local go_sem] Oper.semAt_some
def okTB (l : List S71) : Bool := l.all fun b => decide (0 ≤ b.f0) && decide (b.f0 ≤ 1000000)
theorem okTB_mem {l : List S71} (h : okTB l = true) : ∀ b ∈ l, 0 ≤ b.f0 ∧ b.f0 ≤ 1000000 := fun b hb => by
  have := List.all_eq_true.1 h b hb
  simpa using this
theorem cell_new_at (W : World) (v : Value) (t n : Nat) (h : n = W.heap.size) : (W.alloc (.cells #[v] t)).cell? ⟨n, 0, none⟩ = some v := by
  subst h
  have := heap_alloc_new W (.cells #[v] t)
  unfold World.cell?
  rw [show (⟨W.heap.size, 0, none⟩ : Addr).block = W.heap.size from rfl, this]; rfl
theorem cell_new_two (W : World) (u v : Value) (t : Nat) : (W.alloc (.cells #[u, v] t)).cell? ⟨W.heap.size, 1, none⟩ = some v := by
  have := heap_alloc_new W (.cells #[u, v] t)
  unfold World.cell?
  rw [show (⟨W.heap.size, 1, none⟩ : Addr).block = W.heap.size from rfl, this]; rfl
theorem set_one {W : World} {b t : Nat} {u v : Value} (h : W.heap[b]? = some (.cells #[u] t (0, 0))) : (W.setCell ⟨b, 0, none⟩ v).heap[b]? = some (.cells #[v] t (0, 0)) := by
  have hlt := (Array.getElem?_eq_some_iff.1 h).1
  unfold World.setCell
  simp only [Array.getElem?_modify, if_true, h]
  rfl
def keptL (xs : List Int) (l : List S71) : Bool := l.all fun b => (wins xs b.f0.toNat true xs.length 0).all fun s => !decide (b.f1 < s)
def T95 (A0 : Option Addr) (n0 c0 : Nat) (A1 : Option Addr) (n1 c1 : Nat) (B4 : Nat) (i : Int) (s : Nat → Value) : Array Value := #[.slice A0 n0 c0, .slice A1 n1 c1, s 2, s 3, .pointer (some ⟨B4, 0, none⟩), s 5, s 6, s 7, .slice A0 n0 c0, .int .i64 n0, .int .i64 i, s 11, s 12, s 13, s 14, s 15, s 16, s 17, s 18, s 19, s 20, s 21, s 22, s 23]
set_option maxHeartbeats 8000000 in
set_option maxRecDepth 100000 in
theorem kept_rounds (A0 : Option Addr) (c0 : Nat) (l : List S71) (A1 : Option Addr) (c1' : Nat) (xs : List Int) (B4 base : Nat) (W0 : World) (Q : Exit → Act → World → Prop)
  (hl : l.length ≤ 1000000) (hx : xs.length ≤ 1000000) (hok : ∀ b ∈ l, 0 ≤ b.f0 ∧ b.f0 ≤ 1000000) (hr0 : Kd.C k71 W0 A0 l.length l) (hr1 : Kd.C (Kd.int .i64) W0 A1 xs.length xs) (hc1 : xs.length ≤ c1')
  (o4 : W0.heap[B4]? = some (.cells #[.bool false] 4 (0, 0))) (hb0 : base ≤ W0.heap.size) (hb4 : base ≤ B4)
  (L : Code) (hL : Try.f95.body.bind loopBody = some L)
  (hExit : ∀ ds W s, Below W0.heap.size W0 W → Marks base W W.heap.size ds → keptL xs l = true → Q (.exit 0) { tmps := T95 A0 l.length c0 A1 xs.length c1' B4 l.length s, defers := ds } W)
  (hRet : ∀ ds W i s, Below base W0 W → Marks base W W.heap.size ds → keptL xs l = false → W.cell? ⟨B4, 0, none⟩ = some (.bool false) → Q .ret { tmps := T95 A0 l.length c0 A1 xs.length c1' B4 i s, defers := ds } W) :
  ∀ (k : Nat) (i : Nat) (ds : List Deferred) (W : World) (s : Nat → Value), i + k = l.length → Below W0.heap.size W0 W → Marks base W W.heap.size ds → keptL xs l = keptL xs (l.drop i) →
  Code.rounds Try.prog L Q (k + 1) { tmps := T95 A0 l.length c0 A1 xs.length c1' B4 i s, defers := ds } W := by
 simp only [Try.f95, Option.bind, loopBody] at hL
 obtain rfl := Option.some.inj hL
 clear hL
 intro k
 induction k with
 | zero =>
  intro i ds W s hi hW hM hF
  have key : ∀ tm : Array Value, tm = T95 A0 l.length c0 A1 xs.length c1' B4 l.length (fun n => tm.getD n undef) → Q (.exit 0) { tmps := tm, defers := ds } W := fun tm e => by
   have := hExit ds W (fun n => tm.getD n undef) hW hM (by rw [hF, List.drop_eq_nil_of_le (by omega)]; rfl)
   rwa [← e] at this
  have HX := zA key
  clear hExit hRet hF key
  unfold Code.rounds T95
  obtain rfl : i = l.length := by omega
  have c1 : decide ((l.length : Int) < l.length) = false := decide_eq_false (by omega)
  go_wp2
  exact HX.out _ rfl
 | succ k ih =>
  intro i ds W s hi hW hM hF
  have c1 : decide ((i : Int) < l.length) = true := decide_eq_true (by omega)
  have hmem : rd_T71 l i ∈ l := by
   unfold rd_T71
   rw [List.getD_eq_getElem?_getD, Int.toNat_natCast, List.getElem?_eq_getElem (by omega)]
   exact List.getElem_mem _
  have hdrop : l.drop i = rd_T71 l i :: l.drop (i + 1) := by
   rw [List.drop_eq_getElem_cons (by omega)]
   congr 1
   unfold rd_T71
   rw [List.getD_eq_getElem?_getD, Int.toNat_natCast, List.getElem?_eq_getElem (by omega)]; rfl
  obtain ⟨k0, hk0⟩ : ∃ k0 : Nat, (rd_T71 l i).f0 = k0 := ⟨(rd_T71 l i).f0.toNat, by have := hok _ hmem; omega⟩
  have hk1 : k0 ≤ 1000000 := by have := hok _ hmem; omega
  obtain ⟨am, ham⟩ : ∃ am : Int, (rd_T71 l i).f1 = am := ⟨_, rfl⟩
  have hstep : keptL xs (l.drop i) = ((wins xs k0 true xs.length 0).all (fun s => !decide (am < s)) && keptL xs (l.drop (i + 1))) := by
   rw [hdrop]
   show (((wins xs (rd_T71 l i).f0.toNat true xs.length 0).all fun s => _) && _) = _
   rw [hk0, ham, Int.toNat_natCast]; rfl
  obtain ⟨ad, e, h0, h1⟩ := at_T71 (Kd.C_below hr0 hW) (i : Int) (by omega) (by omega)
  cases e
  rw [hk0] at h0
  rw [ham] at h1
  rw [Int.toNat_natCast] at h0 h1
  have c2 : decide (i < l.length) = true := decide_eq_true (by omega)
  have c3 : i < l.length := by omega
  have IH := zA ih
  have HR := zA hRet
  have HF := zA hF
  have HS := zA hstep
  clear ih hExit hRet hF hstep hmem hdrop hk0 ham hr0
  unfold Code.rounds T95
  go_wp2_with (go_at_call 102; refine (windows_c _ _ _ _ _ _).mono ?_; rintro e w' ⟨rfl, rfl⟩)
  have key : ∀ (tm : Array Value) (ds' : List Deferred) (W' : World), tm = T95 (some ad) l.length c0 A1 xs.length c1' B4 ((i : Int) + 1) (fun n => tm.getD n undef) → Below W.heap.size W W' → Marks base W' W'.heap.size ds' →
    (∀ x ∈ wins xs k0 true xs.length 0, (decide (am < x)) = false) → Code.rounds Try.prog _ Q (k + 1) { tmps := tm, defers := ds' } W' := fun tm ds' W' e hb hM' hn => by
   have := IH.out (i + 1) ds' W' (fun n => tm.getD n undef) (by omega) (hW.trans (hb.mono hW.size)) hM' (by
    rw [HF.out, HS.out, List.all_eq_true.2 (fun x hx => by rw [hn x hx]; rfl), Bool.true_and])
   rw [show ((i + 1 : Nat) : Int) = (i : Int) + 1 by omega] at this
   rwa [← e] at this
  have KEY := zA key
  clear key IH
  have hw : IntKind.i64.wrap ((i : Int) + 1) = (i : Int) + 1 := (i64_w _).trans (by unfold wrap64; omega)
  obtain ⟨W2, hW2⟩ : ∃ W2, ((((W.alloc (Obj.cells #[Value.int IntKind.i64 k0, Value.int IntKind.i64 am] 71)).alloc (Obj.cells #[Value.slice A1 xs.length c1'] 30)).alloc (Obj.cells #[Value.int IntKind.i64 k0] 3)).alloc (Obj.cells #[Value.bool true] 4)) = W2 := ⟨_, rfl⟩
  have bW2 : Below W.heap.size W W2 := by rw [← hW2]; exact below_alloc (below_alloc (below_alloc (below_alloc (Below.refl _ _) _) _) _) _
  have sz2 : W2.heap.size = W.heap.size + 4 := by rw [← hW2]; simp
  have cb : W2.cell? ⟨W.heap.size, 1, none⟩ = some (.int .i64 am) := by rw [← hW2]; exact Lib.cell?_alloc_some _ (Lib.cell?_alloc_some _ (Lib.cell?_alloc_some _ (cell_new_two _ _ _ _)))
  have cl : W2.cell? ⟨W.heap.size + 1, 0, none⟩ = some (.slice A1 xs.length c1') := by rw [← hW2]; exact Lib.cell?_alloc_some _ (Lib.cell?_alloc_some _ (cell_new_at _ _ _ _ (by simp)))
  have ck : W2.cell? ⟨W.heap.size + 1 + 1, 0, none⟩ = some (.int .i64 k0) := by rw [← hW2]; exact Lib.cell?_alloc_some _ (cell_new_at _ _ _ _ (by simp))
  have cs : W2.cell? ⟨W.heap.size + 1 + 2, 0, none⟩ = some (.bool true) := by rw [← hW2]; exact cell_new_at _ _ _ _ (by simp)
  rw [hW2]
  clear hW2 h0 h1
  have b02 : Below W0.heap.size W0 W2 := hW.trans (bW2.mono hW.size)
  have hM2 : Marks base W2 W2.heap.size ds := (hM.keep (fun k o ho _ => (bW2.block k (Array.getElem?_eq_some_iff.1 ho).1).trans ho)).mono bW2.size
  have l4 : B4 < W0.heap.size := (Array.getElem?_eq_some_iff.1 o4).1
  refine wpIn_wide.1 (wpIn_rangeFunc_ownF (n := 10) rfl (by omega) rfl trivial (enters_of Try.func105 (by kernel_rfl) rfl) (windows_stops A1 c1' xs k0 true _ _ _ W2 hx hk1 hc1 (Kd.C_below hr1 b02) cl ck cs)
   belowK_t (belowK_b (Nat.le_refl _)) (Below.refl _ _) (fun _ => rfl)
   (fun pre W' => Below W2.heap.size W2 W' ∧ ∀ x ∈ pre, (decide (am < x)) = false)
   (fun c pre W' => c = .ret ∧ (∀ (k : Nat) (o : Obj), W2.heap[k]? = some o → o.isCells = false → W'.heap[k]? = some o) ∧ Below base W0 W' ∧ W2.heap.size ≤ W'.heap.size ∧ (∃ p x, pre = p ++ [x] ∧ (decide (am < x)) = true) ∧ W'.cell? ⟨B4, 0, none⟩ = some (.bool false))
   ?hI ?hIx ⟨Below.refl _ _, fun x hx => by cases hx⟩
   (fun x => { tmps := #[.slice (some ad) l.length c0, .slice A1 xs.length c1', s 2, s 3, .pointer (some ⟨B4, 0, none⟩), s 5, .pointer (some ⟨W.heap.size, 0, none⟩), .int .i64 x, .slice (some ad) l.length c0, .int .i64 l.length, .int .i64 i, .bool true, .pointer (some (ad.add (i * 2))), .agg #[.int .i64 k0, .int .i64 am], .slice A1 xs.length c1', .pointer (some ⟨W.heap.size, 0, none⟩), .int .i64 k0, .func (.func 105) #[] #[.pointer (some ⟨W.heap.size + 1, 0, none⟩), .pointer (some ⟨W.heap.size + 1 + 1, 0, none⟩), .pointer (some ⟨W.heap.size + 1 + 2, 0, none⟩)], .int .i64 x, s 19, s 20, s 21, s 22, s 23], defers := [] }) ?assign ?body ?done ?stop)
  case hI =>
   intro pre A B row hs hg hrow
   exact ⟨hs.1.trans ⟨hg.os, hg.tape, hg.output, hg.size, fun k hk => hg.block k (by have := hs.1.size; omega) (fun e => by obtain ⟨h1, _⟩ := hrow k e.symm; omega)⟩, hs.2⟩
  case hIx =>
   intro c pre A B row hs hg hrow
   obtain ⟨e, h1, h2, h2s, h3, h6⟩ := hs
   have kb : KeepC A B := ⟨hg.size, fun k o hk ho => (hg.block k (Array.getElem?_eq_some_iff.1 hk).1 (fun e => by obtain ⟨_, o2, h9, h10⟩ := hrow k e.symm; rw [hk] at h9; injection h9 with h9; subst h9; rw [ho] at h10; cases h10)).trans hk⟩
   refine ⟨e, fun k o hk ho => ?_, h2.trans ⟨hg.os, hg.tape, hg.output, hg.size, fun k hk => hg.block k (by have := h2.size; omega) (fun e => by obtain ⟨h1, _⟩ := hrow k e.symm; have := b02.size; omega)⟩, Nat.le_trans h2s hg.size, h3, kb.cell h6⟩
   have hlt : k < W2.heap.size := (Array.getElem?_eq_some_iff.1 hk).1
   exact (hg.block k (by omega) (fun e => by obtain ⟨h1, _⟩ := hrow k e.symm; omega)).trans (h1 k o hk ho)
  case assign =>
   intro l' x W' K hK
   gi_wp2
   exact hK
  case body =>
   rintro lp pre x W1 ⟨hI, hall⟩ hlen
   have b01 : Below W0.heap.size W0 W1 := b02.trans (hI.mono b02.size)
   have cb1 := (hI.cell (World.block_lt_of_cell? _ _ cb)).trans cb
   have o41 := (b01.block B4 l4).trans o4
   have c41 : W1.cell? ⟨B4, 0, none⟩ = some (.bool false) := by simp [World.cell?, o41]
   have f41 : W1.frozen? ⟨B4, 0, none⟩ = false := by simp [World.frozen?, o41]
   have HI := zA hI
   have HALL := zA hall
   have B01 := zA b01
   have O41 := zA o41
   clear hI hall b01 o41
   cases hbx : (decide (am < x)) with
   | true =>
    gi_wp2
    have s1 := B01.out.size
    refine ⟨KeepsOthers.setCell _ _ _, rfl, fun k o hk ho => ?_, (B01.out.mono hb0).setCell (p := ⟨B4, 0, none⟩) hb4 _, by simpa [World.setCell] using HI.out.size, ⟨pre, x, rfl, hbx⟩, by simp [World.cell?, set_one O41.out]⟩
    refine (Below.heap_setCell _ _ _ _ (fun e => ?_)).trans ((HI.out.block k (Array.getElem?_eq_some_iff.1 hk).1).trans hk)
    replace e : k = B4 := e
    rw [e, b02.block B4 l4, o4] at hk
    injection hk with hk; subst hk; cases ho
   | false =>
    gi_wp2
    exact ⟨KeepsOthers.refl _, Below.refl _ _, HI.out, fun y hy => by
     rcases List.mem_append.1 hy with hy | hy
     ·
      exact HALL.out y hy
     ·
      rw [List.mem_singleton] at hy; rw [hy]; exact hbx⟩
  case done =>
   rintro D ys W' hD rfl ⟨hb, hall⟩ hmark
   have hM' : Marks base W' W'.heap.size ({ target := .collected D, args := #[] } :: ds) :=
    ⟨D, rfl, by have := b02.size; omega, (Array.getElem?_eq_some_iff.1 hmark).1, hmark, (hM2.keep (fun k o ho _ => (hb.block k (Array.getElem?_eq_some_iff.1 ho).1).trans ho)).mono hD⟩
   have KK := zA (fun tm e => KEY.out tm _ W' e (bW2.trans (hb.mono bW2.size)) hM' hall)
   clear hM' hb hall hmark
   go_wp2
   refine KK.out _ ?_
   rfl
  case stop =>
   rintro D c pre W' hD hSp ⟨rfl, hno, hbel, hsz, ⟨p, x, rfl, hbx⟩, h4⟩ hmark
   refine wpIn_ret ?_
   have hF : keptL xs l = false := by
    rw [HF.out, HS.out]
    rw [Bool.and_eq_false_iff]
    refine .inl (List.all_eq_false.2 ⟨x, hSp.subset (by simp), by rw [hbx]; simp⟩)
   have hM' : Marks base W' W'.heap.size ({ target := .collected D, args := #[] } :: ds) :=
    ⟨D, rfl, by have := b02.size; omega, (Array.getElem?_eq_some_iff.1 hmark).1, hmark, (hM2.keep hno).mono hD⟩
   have KK : ∀ tm : Array Value, tm = T95 (some ad) l.length c0 A1 xs.length c1' B4 (i : Int) (fun n => tm.getD n undef) → Q .ret { tmps := tm, defers := { target := .collected D, args := #[] } :: ds } W' := fun tm e => by
    have := HR.out _ W' (i : Int) (fun n => tm.getD n undef) hbel hM' hF h4
    rwa [← e] at this
   change Q .ret _ _
   refine KK _ ?_
   rfl
theorem results95 (tm : Array Value) (W : World) (B4 : Nat) (v : Value) (h4 : tm.getD 4 undef = .pointer (some ⟨B4, 0, none⟩)) (c4 : W.cell? ⟨B4, 0, none⟩ = some v) : (results Try.f95 tm).run Try.prog W = .ok v W := by
  have g4 : tm[4]?.getD undef = .pointer (some ⟨B4, 0, none⟩) := by simpa using h4
  simp [results, Try.f95, g4, go_sem, c4]
theorem fin95 (w W : World) (tm : Array Value) (ds : List Deferred) (r : Bool) (B4 : Nat) (h4 : tm.getD 4 undef = .pointer (some ⟨B4, 0, none⟩)) (c4 : W.cell? ⟨B4, 0, none⟩ = some (.bool r)) (hB : Below w.heap.size w W) (hM : Marks w.heap.size W W.heap.size ds) :
    bodyPostM Fence.wide 10 Try.prog Try.f95 (fun e w' => e = .returned (.bool r) ∧ Below w.heap.size w w') .ret { tmps := tm, defers := ds } W :=
  show LeavesInM _ _ _ _ _ _ _ _ _ from leaves ds W.heap.size W hM hB.size (fun W' hb hk => ⟨_, results95 tm W' B4 _ h4 (hk.cell c4), rfl, hB.trans hb⟩)
def pump_bounds_kept.f (l : List S71) (xs : List Int) : Option Bool := if l.length ≤ 1000000 ∧ xs.length ≤ 1000000 ∧ okTB l = true then some (keptL xs l) else none
set_option maxHeartbeats 8000000 in
set_option maxRecDepth 100000 in
theorem pump_bounds_kept.calls (A0 : Option Addr) (c0 : Nat) (l : List S71) (A1 : Option Addr) (c1' : Nat) (xs : List Int) (r : Bool) (w : World) (hr0 : Kd.C k71 w A0 l.length l) (hc0 : l.length ≤ c0) (hr1 : Kd.C (Kd.int .i64) w A1 xs.length xs) (hc1 : xs.length ≤ c1') (h : pump_bounds_kept.f l xs = some r) :
  Calls Try.prog 95 #[.slice A0 l.length c0, .slice A1 xs.length c1'] w fun e w' => e = .returned (.bool r) ∧ Below w.heap.size w w' := by
 unfold pump_bounds_kept.f at h
 split at h
 case isFalse => cases h
 rename_i hb
 have H := Option.some.inj h
 clear h
 refine callsIn_wide.1 (?_ : CallsIn Fence.wide 10 _ _ _ _ _)
 refine callsIn_of_wp_marks Try.func95 rfl trivial ?_
 refine wpIn_wide.2 ?_
 simp only [Try.ntmps95, List.size_toArray, List.length_cons, List.length_nil, Nat.reduceAdd, Nat.reduceSub, Array.replicate_succ, Array.replicate_zero, List.push_toArray, List.append_toArray, List.nil_append, List.cons_append]
 obtain ⟨W0, hW0⟩ : ∃ W0, w.alloc (.cells #[.bool false] 4) = W0 := ⟨_, rfl⟩
 have o4 : W0.heap[w.heap.size]? = some (.cells #[.bool false] 4 (0, 0)) := by rw [← hW0]; exact heap_alloc_new _ _
 have b0 : Below w.heap.size w W0 := by rw [← hW0]; exact below_alloc (Below.refl _ _) _
 have key : ∀ (L : Code) (Q : Exit → Act → World → Prop), Try.f95.body.bind loopBody = some L →
   (∀ ds W s, Below W0.heap.size W0 W → Marks w.heap.size W W.heap.size ds → keptL xs l = true → Q (.exit 0) { tmps := T95 A0 l.length c0 A1 xs.length c1' w.heap.size l.length s, defers := ds } W) →
   (∀ ds W i s, Below w.heap.size W0 W → Marks w.heap.size W W.heap.size ds → keptL xs l = false → W.cell? ⟨w.heap.size, 0, none⟩ = some (.bool false) → Q .ret { tmps := T95 A0 l.length c0 A1 xs.length c1' w.heap.size i s, defers := ds } W) →
   ∀ tm : Array Value, tm = T95 A0 l.length c0 A1 xs.length c1' w.heap.size 0 (fun n => tm.getD n undef) → Code.rounds Try.prog L Q (l.length + 1) { tmps := tm, defers := [] } W0 := fun L Q hL hE hR tm e => by
  have := kept_rounds A0 c0 l A1 c1' xs w.heap.size w.heap.size W0 Q hb.1 hb.2.1 (okTB_mem hb.2.2) (Kd.C_below hr0 b0) (Kd.C_below hr1 b0) hc1 o4 b0.size (Nat.le_refl _) L hL hE hR
   l.length 0 [] W0 (fun n => tm.getD n undef) (by omega) (Below.refl _ _) trivial rfl
  rw [show ((0 : Nat) : Int) = 0 from rfl, ← e] at this
  exact this
 have KEY := zA key
 have B0 := zA b0
 have O4 := zA o4
 have HW := zA hW0
 clear key b0 o4 hW0 hb hr0 hr1
 go_wp2
 rw [HW.out]
 refine wp_loop_rounds (l.length + 1) (KEY.out _ _ (by kernel_rfl) ?_ ?_ _ ?_)
 ·
  intro ds W s hB hM hL
  have hlt := (Array.getElem?_eq_some_iff.1 O4.out).1
  have u4 := (hB.block _ hlt).trans O4.out
  have t4 : W.cell? ⟨w.heap.size, 0, none⟩ = some (.bool false) := by simp [World.cell?, u4]
  have t4f : W.frozen? ⟨w.heap.size, 0, none⟩ = false := by simp [World.frozen?, u4]
  have HM := zA hM
  have HB := zA (B0.out.trans (hB.mono B0.out.size))
  have U4 := zA u4
  have HL := zA hL
  clear hM hB u4 KEY hL
  unfold T95
  go_wp2
  have hr : r = true := by rw [← H, HL.out]
  subst hr
  refine fin95 w _ _ ds _ w.heap.size rfl (by simp [World.cell?, set_one U4.out]) (HB.out.setCell (by simp) _) ?_
  refine (HM.out.keep (fun k o hk ho => ?_)).mono (by simp [World.setCell])
  refine (Below.heap_setCell _ _ _ _ (fun e => ?_)).trans hk
  replace e : k = w.heap.size := e
  rw [e, U4.out] at hk; injection hk with hk; subst hk; cases ho
 ·
  intro ds W i s hB hM hL h4
  have hr : r = false := by rw [← H, hL]
  subst hr
  change bodyPostM _ _ _ _ _ .ret _ _
  exact fin95 w _ _ ds _ w.heap.size rfl h4 (B0.out.trans hB) hM
 ·
  rfl
def hadL (xs : List Int) (l : List S71) : Bool := l.all fun b => (wins xs b.f0.toNat false xs.length 0).all fun s => !decide (s < b.f1)
def T96 (A0 : Option Addr) (n0 c0 : Nat) (A1 : Option Addr) (n1 c1 : Nat) (B4 : Nat) (i : Int) (s : Nat → Value) : Array Value := #[.slice A0 n0 c0, .slice A1 n1 c1, s 2, s 3, .pointer (some ⟨B4, 0, none⟩), s 5, s 6, s 7, .slice A0 n0 c0, .int .i64 n0, .int .i64 i, s 11, s 12, s 13, s 14, s 15, s 16, s 17, s 18, s 19, s 20, s 21, s 22, s 23]
set_option maxHeartbeats 8000000 in
set_option maxRecDepth 100000 in
theorem had_rounds (A0 : Option Addr) (c0 : Nat) (l : List S71) (A1 : Option Addr) (c1' : Nat) (xs : List Int) (B4 base : Nat) (W0 : World) (Q : Exit → Act → World → Prop)
  (hl : l.length ≤ 1000000) (hx : xs.length ≤ 1000000) (hok : ∀ b ∈ l, 0 ≤ b.f0 ∧ b.f0 ≤ 1000000) (hr0 : Kd.C k71 W0 A0 l.length l) (hr1 : Kd.C (Kd.int .i64) W0 A1 xs.length xs) (hc1 : xs.length ≤ c1')
  (o4 : W0.heap[B4]? = some (.cells #[.bool false] 4 (0, 0))) (hb0 : base ≤ W0.heap.size) (hb4 : base ≤ B4)
  (L : Code) (hL : Try.f96.body.bind loopBody = some L)
  (hExit : ∀ ds W s, Below W0.heap.size W0 W → Marks base W W.heap.size ds → hadL xs l = true → Q (.exit 0) { tmps := T96 A0 l.length c0 A1 xs.length c1' B4 l.length s, defers := ds } W)
  (hRet : ∀ ds W i s, Below base W0 W → Marks base W W.heap.size ds → hadL xs l = false → W.cell? ⟨B4, 0, none⟩ = some (.bool false) → Q .ret { tmps := T96 A0 l.length c0 A1 xs.length c1' B4 i s, defers := ds } W) :
  ∀ (k : Nat) (i : Nat) (ds : List Deferred) (W : World) (s : Nat → Value), i + k = l.length → Below W0.heap.size W0 W → Marks base W W.heap.size ds → hadL xs l = hadL xs (l.drop i) →
  Code.rounds Try.prog L Q (k + 1) { tmps := T96 A0 l.length c0 A1 xs.length c1' B4 i s, defers := ds } W := by
 simp only [Try.f96, Option.bind, loopBody] at hL
 obtain rfl := Option.some.inj hL
 clear hL
 intro k
 induction k with
 | zero =>
  intro i ds W s hi hW hM hF
  have key : ∀ tm : Array Value, tm = T96 A0 l.length c0 A1 xs.length c1' B4 l.length (fun n => tm.getD n undef) → Q (.exit 0) { tmps := tm, defers := ds } W := fun tm e => by
   have := hExit ds W (fun n => tm.getD n undef) hW hM (by rw [hF, List.drop_eq_nil_of_le (by omega)]; rfl)
   rwa [← e] at this
  have HX := zA key
  clear hExit hRet hF key
  unfold Code.rounds T96
  obtain rfl : i = l.length := by omega
  have c1 : decide ((l.length : Int) < l.length) = false := decide_eq_false (by omega)
  go_wp2
  exact HX.out _ rfl
 | succ k ih =>
  intro i ds W s hi hW hM hF
  have c1 : decide ((i : Int) < l.length) = true := decide_eq_true (by omega)
  have hmem : rd_T71 l i ∈ l := by
   unfold rd_T71
   rw [List.getD_eq_getElem?_getD, Int.toNat_natCast, List.getElem?_eq_getElem (by omega)]
   exact List.getElem_mem _
  have hdrop : l.drop i = rd_T71 l i :: l.drop (i + 1) := by
   rw [List.drop_eq_getElem_cons (by omega)]
   congr 1
   unfold rd_T71
   rw [List.getD_eq_getElem?_getD, Int.toNat_natCast, List.getElem?_eq_getElem (by omega)]; rfl
  obtain ⟨k0, hk0⟩ : ∃ k0 : Nat, (rd_T71 l i).f0 = k0 := ⟨(rd_T71 l i).f0.toNat, by have := hok _ hmem; omega⟩
  have hk1 : k0 ≤ 1000000 := by have := hok _ hmem; omega
  obtain ⟨am, ham⟩ : ∃ am : Int, (rd_T71 l i).f1 = am := ⟨_, rfl⟩
  have hstep : hadL xs (l.drop i) = ((wins xs k0 false xs.length 0).all (fun s => !decide (s < am)) && hadL xs (l.drop (i + 1))) := by
   rw [hdrop]
   show (((wins xs (rd_T71 l i).f0.toNat false xs.length 0).all fun s => _) && _) = _
   rw [hk0, ham, Int.toNat_natCast]; rfl
  obtain ⟨ad, e, h0, h1⟩ := at_T71 (Kd.C_below hr0 hW) (i : Int) (by omega) (by omega)
  cases e
  rw [hk0] at h0
  rw [ham] at h1
  rw [Int.toNat_natCast] at h0 h1
  have c2 : decide (i < l.length) = true := decide_eq_true (by omega)
  have c3 : i < l.length := by omega
  have IH := zA ih
  have HR := zA hRet
  have HF := zA hF
  have HS := zA hstep
  clear ih hExit hRet hF hstep hmem hdrop hk0 ham hr0
  unfold Code.rounds T96
  go_wp2_with (go_at_call 102; refine (windows_c _ _ _ _ _ _).mono ?_; rintro e w' ⟨rfl, rfl⟩)
  have key : ∀ (tm : Array Value) (ds' : List Deferred) (W' : World), tm = T96 (some ad) l.length c0 A1 xs.length c1' B4 ((i : Int) + 1) (fun n => tm.getD n undef) → Below W.heap.size W W' → Marks base W' W'.heap.size ds' →
    (∀ x ∈ wins xs k0 false xs.length 0, (decide (x < am)) = false) → Code.rounds Try.prog _ Q (k + 1) { tmps := tm, defers := ds' } W' := fun tm ds' W' e hb hM' hn => by
   have := IH.out (i + 1) ds' W' (fun n => tm.getD n undef) (by omega) (hW.trans (hb.mono hW.size)) hM' (by
    rw [HF.out, HS.out, List.all_eq_true.2 (fun x hx => by rw [hn x hx]; rfl), Bool.true_and])
   rw [show ((i + 1 : Nat) : Int) = (i : Int) + 1 by omega] at this
   rwa [← e] at this
  have KEY := zA key
  clear key IH
  have hw : IntKind.i64.wrap ((i : Int) + 1) = (i : Int) + 1 := (i64_w _).trans (by unfold wrap64; omega)
  obtain ⟨W2, hW2⟩ : ∃ W2, ((((W.alloc (Obj.cells #[Value.int IntKind.i64 k0, Value.int IntKind.i64 am] 71)).alloc (Obj.cells #[Value.slice A1 xs.length c1'] 30)).alloc (Obj.cells #[Value.int IntKind.i64 k0] 3)).alloc (Obj.cells #[Value.bool false] 4)) = W2 := ⟨_, rfl⟩
  have bW2 : Below W.heap.size W W2 := by rw [← hW2]; exact below_alloc (below_alloc (below_alloc (below_alloc (Below.refl _ _) _) _) _) _
  have sz2 : W2.heap.size = W.heap.size + 4 := by rw [← hW2]; simp
  have cb : W2.cell? ⟨W.heap.size, 1, none⟩ = some (.int .i64 am) := by rw [← hW2]; exact Lib.cell?_alloc_some _ (Lib.cell?_alloc_some _ (Lib.cell?_alloc_some _ (cell_new_two _ _ _ _)))
  have cl : W2.cell? ⟨W.heap.size + 1, 0, none⟩ = some (.slice A1 xs.length c1') := by rw [← hW2]; exact Lib.cell?_alloc_some _ (Lib.cell?_alloc_some _ (cell_new_at _ _ _ _ (by simp)))
  have ck : W2.cell? ⟨W.heap.size + 1 + 1, 0, none⟩ = some (.int .i64 k0) := by rw [← hW2]; exact Lib.cell?_alloc_some _ (cell_new_at _ _ _ _ (by simp))
  have cs : W2.cell? ⟨W.heap.size + 1 + 2, 0, none⟩ = some (.bool false) := by rw [← hW2]; exact cell_new_at _ _ _ _ (by simp)
  rw [hW2]
  clear hW2 h0 h1
  have b02 : Below W0.heap.size W0 W2 := hW.trans (bW2.mono hW.size)
  have hM2 : Marks base W2 W2.heap.size ds := (hM.keep (fun k o ho _ => (bW2.block k (Array.getElem?_eq_some_iff.1 ho).1).trans ho)).mono bW2.size
  have l4 : B4 < W0.heap.size := (Array.getElem?_eq_some_iff.1 o4).1
  refine wpIn_wide.1 (wpIn_rangeFunc_ownF (n := 10) rfl (by omega) rfl trivial (enters_of Try.func105 (by kernel_rfl) rfl) (windows_stops A1 c1' xs k0 false _ _ _ W2 hx hk1 hc1 (Kd.C_below hr1 b02) cl ck cs)
   belowK_t (belowK_b (Nat.le_refl _)) (Below.refl _ _) (fun _ => rfl)
   (fun pre W' => Below W2.heap.size W2 W' ∧ ∀ x ∈ pre, (decide (x < am)) = false)
   (fun c pre W' => c = .ret ∧ (∀ (k : Nat) (o : Obj), W2.heap[k]? = some o → o.isCells = false → W'.heap[k]? = some o) ∧ Below base W0 W' ∧ W2.heap.size ≤ W'.heap.size ∧ (∃ p x, pre = p ++ [x] ∧ (decide (x < am)) = true) ∧ W'.cell? ⟨B4, 0, none⟩ = some (.bool false))
   ?hI ?hIx ⟨Below.refl _ _, fun x hx => by cases hx⟩
   (fun x => { tmps := #[.slice (some ad) l.length c0, .slice A1 xs.length c1', s 2, s 3, .pointer (some ⟨B4, 0, none⟩), s 5, .pointer (some ⟨W.heap.size, 0, none⟩), .int .i64 x, .slice (some ad) l.length c0, .int .i64 l.length, .int .i64 i, .bool true, .pointer (some (ad.add (i * 2))), .agg #[.int .i64 k0, .int .i64 am], .slice A1 xs.length c1', .pointer (some ⟨W.heap.size, 0, none⟩), .int .i64 k0, .func (.func 105) #[] #[.pointer (some ⟨W.heap.size + 1, 0, none⟩), .pointer (some ⟨W.heap.size + 1 + 1, 0, none⟩), .pointer (some ⟨W.heap.size + 1 + 2, 0, none⟩)], .int .i64 x, s 19, s 20, s 21, s 22, s 23], defers := [] }) ?assign ?body ?done ?stop)
  case hI =>
   intro pre A B row hs hg hrow
   exact ⟨hs.1.trans ⟨hg.os, hg.tape, hg.output, hg.size, fun k hk => hg.block k (by have := hs.1.size; omega) (fun e => by obtain ⟨h1, _⟩ := hrow k e.symm; omega)⟩, hs.2⟩
  case hIx =>
   intro c pre A B row hs hg hrow
   obtain ⟨e, h1, h2, h2s, h3, h6⟩ := hs
   have kb : KeepC A B := ⟨hg.size, fun k o hk ho => (hg.block k (Array.getElem?_eq_some_iff.1 hk).1 (fun e => by obtain ⟨_, o2, h9, h10⟩ := hrow k e.symm; rw [hk] at h9; injection h9 with h9; subst h9; rw [ho] at h10; cases h10)).trans hk⟩
   refine ⟨e, fun k o hk ho => ?_, h2.trans ⟨hg.os, hg.tape, hg.output, hg.size, fun k hk => hg.block k (by have := h2.size; omega) (fun e => by obtain ⟨h1, _⟩ := hrow k e.symm; have := b02.size; omega)⟩, Nat.le_trans h2s hg.size, h3, kb.cell h6⟩
   have hlt : k < W2.heap.size := (Array.getElem?_eq_some_iff.1 hk).1
   exact (hg.block k (by omega) (fun e => by obtain ⟨h1, _⟩ := hrow k e.symm; omega)).trans (h1 k o hk ho)
  case assign =>
   intro l' x W' K hK
   gi_wp2
   exact hK
  case body =>
   rintro lp pre x W1 ⟨hI, hall⟩ hlen
   have b01 : Below W0.heap.size W0 W1 := b02.trans (hI.mono b02.size)
   have cb1 := (hI.cell (World.block_lt_of_cell? _ _ cb)).trans cb
   have o41 := (b01.block B4 l4).trans o4
   have c41 : W1.cell? ⟨B4, 0, none⟩ = some (.bool false) := by simp [World.cell?, o41]
   have f41 : W1.frozen? ⟨B4, 0, none⟩ = false := by simp [World.frozen?, o41]
   have HI := zA hI
   have HALL := zA hall
   have B01 := zA b01
   have O41 := zA o41
   clear hI hall b01 o41
   cases hbx : (decide (x < am)) with
   | true =>
    gi_wp2
    have s1 := B01.out.size
    refine ⟨KeepsOthers.setCell _ _ _, rfl, fun k o hk ho => ?_, (B01.out.mono hb0).setCell (p := ⟨B4, 0, none⟩) hb4 _, by simpa [World.setCell] using HI.out.size, ⟨pre, x, rfl, hbx⟩, by simp [World.cell?, set_one O41.out]⟩
    refine (Below.heap_setCell _ _ _ _ (fun e => ?_)).trans ((HI.out.block k (Array.getElem?_eq_some_iff.1 hk).1).trans hk)
    replace e : k = B4 := e
    rw [e, b02.block B4 l4, o4] at hk
    injection hk with hk; subst hk; cases ho
   | false =>
    gi_wp2
    exact ⟨KeepsOthers.refl _, Below.refl _ _, HI.out, fun y hy => by
     rcases List.mem_append.1 hy with hy | hy
     ·
      exact HALL.out y hy
     ·
      rw [List.mem_singleton] at hy; rw [hy]; exact hbx⟩
  case done =>
   rintro D ys W' hD rfl ⟨hb, hall⟩ hmark
   have hM' : Marks base W' W'.heap.size ({ target := .collected D, args := #[] } :: ds) :=
    ⟨D, rfl, by have := b02.size; omega, (Array.getElem?_eq_some_iff.1 hmark).1, hmark, (hM2.keep (fun k o ho _ => (hb.block k (Array.getElem?_eq_some_iff.1 ho).1).trans ho)).mono hD⟩
   have KK := zA (fun tm e => KEY.out tm _ W' e (bW2.trans (hb.mono bW2.size)) hM' hall)
   clear hM' hb hall hmark
   go_wp2
   refine KK.out _ ?_
   rfl
  case stop =>
   rintro D c pre W' hD hSp ⟨rfl, hno, hbel, hsz, ⟨p, x, rfl, hbx⟩, h4⟩ hmark
   refine wpIn_ret ?_
   have hF : hadL xs l = false := by
    rw [HF.out, HS.out]
    rw [Bool.and_eq_false_iff]
    refine .inl (List.all_eq_false.2 ⟨x, hSp.subset (by simp), by rw [hbx]; simp⟩)
   have hM' : Marks base W' W'.heap.size ({ target := .collected D, args := #[] } :: ds) :=
    ⟨D, rfl, by have := b02.size; omega, (Array.getElem?_eq_some_iff.1 hmark).1, hmark, (hM2.keep hno).mono hD⟩
   have KK : ∀ tm : Array Value, tm = T96 (some ad) l.length c0 A1 xs.length c1' B4 (i : Int) (fun n => tm.getD n undef) → Q .ret { tmps := tm, defers := { target := .collected D, args := #[] } :: ds } W' := fun tm e => by
    have := HR.out _ W' (i : Int) (fun n => tm.getD n undef) hbel hM' hF h4
    rwa [← e] at this
   change Q .ret _ _
   refine KK _ ?_
   rfl
theorem results96 (tm : Array Value) (W : World) (B4 : Nat) (v : Value) (h4 : tm.getD 4 undef = .pointer (some ⟨B4, 0, none⟩)) (c4 : W.cell? ⟨B4, 0, none⟩ = some v) : (results Try.f96 tm).run Try.prog W = .ok v W := by
  have g4 : tm[4]?.getD undef = .pointer (some ⟨B4, 0, none⟩) := by simpa using h4
  simp [results, Try.f96, g4, go_sem, c4]
theorem fin96 (w W : World) (tm : Array Value) (ds : List Deferred) (r : Bool) (B4 : Nat) (h4 : tm.getD 4 undef = .pointer (some ⟨B4, 0, none⟩)) (c4 : W.cell? ⟨B4, 0, none⟩ = some (.bool r)) (hB : Below w.heap.size w W) (hM : Marks w.heap.size W W.heap.size ds) :
    bodyPostM Fence.wide 10 Try.prog Try.f96 (fun e w' => e = .returned (.bool r) ∧ Below w.heap.size w w') .ret { tmps := tm, defers := ds } W :=
  show LeavesInM _ _ _ _ _ _ _ _ _ from leaves ds W.heap.size W hM hB.size (fun W' hb hk => ⟨_, results96 tm W' B4 _ h4 (hk.cell c4), rfl, hB.trans hb⟩)
def pump_bounds_had.f (l : List S71) (xs : List Int) : Option Bool := if l.length ≤ 1000000 ∧ xs.length ≤ 1000000 ∧ okTB l = true then some (hadL xs l) else none
set_option maxHeartbeats 8000000 in
set_option maxRecDepth 100000 in
theorem pump_bounds_had.calls (A0 : Option Addr) (c0 : Nat) (l : List S71) (A1 : Option Addr) (c1' : Nat) (xs : List Int) (r : Bool) (w : World) (hr0 : Kd.C k71 w A0 l.length l) (hc0 : l.length ≤ c0) (hr1 : Kd.C (Kd.int .i64) w A1 xs.length xs) (hc1 : xs.length ≤ c1') (h : pump_bounds_had.f l xs = some r) :
  Calls Try.prog 96 #[.slice A0 l.length c0, .slice A1 xs.length c1'] w fun e w' => e = .returned (.bool r) ∧ Below w.heap.size w w' := by
 unfold pump_bounds_had.f at h
 split at h
 case isFalse => cases h
 rename_i hb
 have H := Option.some.inj h
 clear h
 refine callsIn_wide.1 (?_ : CallsIn Fence.wide 10 _ _ _ _ _)
 refine callsIn_of_wp_marks Try.func96 rfl trivial ?_
 refine wpIn_wide.2 ?_
 simp only [Try.ntmps96, List.size_toArray, List.length_cons, List.length_nil, Nat.reduceAdd, Nat.reduceSub, Array.replicate_succ, Array.replicate_zero, List.push_toArray, List.append_toArray, List.nil_append, List.cons_append]
 obtain ⟨W0, hW0⟩ : ∃ W0, w.alloc (.cells #[.bool false] 4) = W0 := ⟨_, rfl⟩
 have o4 : W0.heap[w.heap.size]? = some (.cells #[.bool false] 4 (0, 0)) := by rw [← hW0]; exact heap_alloc_new _ _
 have b0 : Below w.heap.size w W0 := by rw [← hW0]; exact below_alloc (Below.refl _ _) _
 have key : ∀ (L : Code) (Q : Exit → Act → World → Prop), Try.f96.body.bind loopBody = some L →
   (∀ ds W s, Below W0.heap.size W0 W → Marks w.heap.size W W.heap.size ds → hadL xs l = true → Q (.exit 0) { tmps := T96 A0 l.length c0 A1 xs.length c1' w.heap.size l.length s, defers := ds } W) →
   (∀ ds W i s, Below w.heap.size W0 W → Marks w.heap.size W W.heap.size ds → hadL xs l = false → W.cell? ⟨w.heap.size, 0, none⟩ = some (.bool false) → Q .ret { tmps := T96 A0 l.length c0 A1 xs.length c1' w.heap.size i s, defers := ds } W) →
   ∀ tm : Array Value, tm = T96 A0 l.length c0 A1 xs.length c1' w.heap.size 0 (fun n => tm.getD n undef) → Code.rounds Try.prog L Q (l.length + 1) { tmps := tm, defers := [] } W0 := fun L Q hL hE hR tm e => by
  have := had_rounds A0 c0 l A1 c1' xs w.heap.size w.heap.size W0 Q hb.1 hb.2.1 (okTB_mem hb.2.2) (Kd.C_below hr0 b0) (Kd.C_below hr1 b0) hc1 o4 b0.size (Nat.le_refl _) L hL hE hR
   l.length 0 [] W0 (fun n => tm.getD n undef) (by omega) (Below.refl _ _) trivial rfl
  rw [show ((0 : Nat) : Int) = 0 from rfl, ← e] at this
  exact this
 have KEY := zA key
 have B0 := zA b0
 have O4 := zA o4
 have HW := zA hW0
 clear key b0 o4 hW0 hb hr0 hr1
 go_wp2
 rw [HW.out]
 refine wp_loop_rounds (l.length + 1) (KEY.out _ _ (by kernel_rfl) ?_ ?_ _ ?_)
 ·
  intro ds W s hB hM hL
  have hlt := (Array.getElem?_eq_some_iff.1 O4.out).1
  have u4 := (hB.block _ hlt).trans O4.out
  have t4 : W.cell? ⟨w.heap.size, 0, none⟩ = some (.bool false) := by simp [World.cell?, u4]
  have t4f : W.frozen? ⟨w.heap.size, 0, none⟩ = false := by simp [World.frozen?, u4]
  have HM := zA hM
  have HB := zA (B0.out.trans (hB.mono B0.out.size))
  have U4 := zA u4
  have HL := zA hL
  clear hM hB u4 KEY hL
  unfold T96
  go_wp2
  have hr : r = true := by rw [← H, HL.out]
  subst hr
  refine fin96 w _ _ ds _ w.heap.size rfl (by simp [World.cell?, set_one U4.out]) (HB.out.setCell (by simp) _) ?_
  refine (HM.out.keep (fun k o hk ho => ?_)).mono (by simp [World.setCell])
  refine (Below.heap_setCell _ _ _ _ (fun e => ?_)).trans hk
  replace e : k = w.heap.size := e
  rw [e, U4.out] at hk; injection hk with hk; subst hk; cases ho
 ·
  intro ds W i s hB hM hL h4
  have hr : r = false := by rw [← H, hL]
  subst hr
  change bodyPostM _ _ _ _ _ .ret _ _
  exact fin96 w _ _ ds _ w.heap.size rfl h4 (B0.out.trans hB) hM
 ·
  rfl
end Go.Proofs.Ythoeindopljmkaa.P
end
section
namespace Go.Proofs.Ythoeindopljmkaa.P
open Go.RowKit Go.Proofs.YthoeindopljmkaaW.PrintWords Go.Proofs.YthoeindopljmkaaW.PrintLast Go.Proofs.YthoeindopljmkaaW.PrintMore
set_option linter.unusedVariables false
set_option linter.unusedSimpArgs false
theorem idxF_atI {P : Int → Bool} {l : List Int} {i : Int} (h0 : 0 ≤ i) (h1 : i < l.length) (h : ∀ j : Nat, (j : Int) < i → P (rd l j) = false) (hp : P (rd l i) = true) : idxF P l = i := by
  have e : l.findIdx? P = some i.toNat := by
    rw [List.findIdx?_eq_some_iff_getElem]
    have g : ∀ j : Nat, (hj : j < l.length) → rd l (j : Int) = l[j] := by
      intro j hj
      unfold rd
      rw [List.getD_eq_getElem?_getD, Int.toNat_natCast, List.getElem?_eq_getElem hj]; rfl
    refine ⟨by omega, ?_, ?_⟩
    · rw [← g, show ((i.toNat : Nat) : Int) = i by omega]; exact hp
    · intro j hj
      rw [← g j (by omega), h j (by omega)]; simp
  unfold idxF
  rw [e]
  show ((i.toNat : Nat) : Int) = i
  omega
theorem idxF_noneI {P : Int → Bool} {l : List Int} (h : ∀ j : Nat, j < l.length → P (rd l j) = false) : idxF P l = -1 := by
  have e : l.findIdx? P = none := by
    rw [List.findIdx?_eq_none_iff]
    intro x hx
    obtain ⟨j, hj, rfl⟩ := List.mem_iff_getElem.1 hx
    have := h j hj
    unfold rd at this
    rw [List.getD_eq_getElem?_getD, Int.toNat_natCast, List.getElem?_eq_getElem hj] at this
    exact this
  unfold idxF
  rw [e]
set_option maxHeartbeats 2000000 in
set_option maxRecDepth 100000 in
theorem IndexFunc80 (g : Nat) (cap : Array Value) (P : Int → Bool)
    (eg : ∀ args w, (callFunc g args).run Try.prog w = .ok (.enter g args) w)
    (A0 : Option Addr) (c0 : Nat) (l : List Int) (w : World) (hr0 : Kd.C (Kd.int .i64) w A0 l.length l) (hc0 : l.length ≤ c0) (hlen : l.length ≤ 1000000)
    (hf : ∀ (x : Int) W, x ∈ l → Below w.heap.size w W → Calls Try.prog g (#[.int .i64 x] ++ cap) W fun e W' => e = .returned (.bool (P x)) ∧ Below W.heap.size W W') :
    Calls Try.prog 80 #[.slice A0 l.length c0, .func (.func g) #[] cap] w fun e w' => e = .returned (.int .i64 (idxF P l)) ∧ Below w.heap.size w w' := by
  have HR := zA hr0
  have HF := zA hf
  have HC := zA hc0
  clear hr0 hf hc0
  go_enter Try.func80, Try.ntmps80
  go_wp2_with fail
  go_loopg [8] l.length (fun kq v8 w' => ∃ i : Int, v8 = .int .i64 i ∧ Aside0 (0 ≤ i ∧ (kq : Int) = l.length - i ∧ ∀ j : Nat, (j : Int) < i → P (rd l j) = false) ∧ Aside0 (Below w.heap.size w w'))
  case atStart => exact ⟨0, rfl, ⟨by omega, by omega, fun j hj => by omega⟩, ⟨Below.refl _ _⟩⟩
  case round =>
    obtain ⟨i, rfl, HI, HB⟩ := hrel
    by_cases c : i < (l.length : Int)
    · have p := HI.out.1
      obtain ⟨ad, e, h0⟩ := Kd.at_int HR.out i p c
      cases e
      replace h0 := (HB.out.cell (World.block_lt_of_cell? w _ h0)).trans h0
      have hx : rd l i ∈ l := by
        unfold rd
        rw [List.getD_eq_getElem?_getD, List.getElem?_eq_getElem (by omega)]
        exact List.getElem_mem _
      go_wp2_with fail
      refine (HF.out (rd l i) _ hx HB.out).mono ?_
      rintro e w' ⟨rfl, hb⟩
      have HB' := zA (HB.out.trans (hb.mono HB.out.size))
      clear hb
      by_cases hp : P (rd l i) = true
      · have hr : idxF P l = i := idxF_atI HI.out.1 c HI.out.2.2 hp
        have HR' := zA hr
        clear hr
        rw [hp]
        go_wp2
        go_ret
        exact ⟨by rw [HR'.out]; rfl, HB'.out⟩
      · replace hp : P (rd l i) = false := by simpa using hp
        have hall : ∀ j : Nat, (j : Int) < i + 1 → P (rd l j) = false := by
          intro j hj
          by_cases e : (j : Int) = i
          · rw [e]; exact hp
          · exact HI.out.2.2 j (by omega)
        have HA := zA hall
        clear hall
        have hi := HI.out.2.1
        rw [hp]
        go_wp2
        go_roundg (l.length - (i + 1)).toNat
        case measure => omega
        case rel => exact ⟨i + 1, by first | rfl | simp, ⟨by omega, by omega, HA.out⟩, HB'⟩
    · have hr : idxF P l = -1 := idxF_noneI (fun j hj => HI.out.2.2 j (by have := HI.out.2.1; omega))
      have HR' := zA hr
      clear hr
      go_wp2
      go_ret
      exact ⟨by rw [HR'.out]; rfl, HB.out⟩
theorem idxF_anyI {P : Int → Bool} {l : List Int} : decide (0 ≤ idxF P l) = l.any P := by
  unfold idxF
  cases h : l.findIdx? P with
  | some i =>
    rw [List.findIdx?_eq_some_iff_getElem] at h
    obtain ⟨hi, hp, _⟩ := h
    have : l.any P = true := List.any_eq_true.2 ⟨l[i], List.getElem_mem _, hp⟩
    rw [this]
    simp
  | none =>
    rw [List.findIdx?_eq_none_iff] at h
    have : l.any P = false := by
      rw [List.any_eq_false]
      intro x hx
      simp [h x hx]
    rw [this]; rfl
set_option maxHeartbeats 2000000 in
set_option maxRecDepth 100000 in
theorem ContainsFunc94 (g : Nat) (cap : Array Value) (P : Int → Bool)
    (eg : ∀ args w, (callFunc g args).run Try.prog w = .ok (.enter g args) w)
    (A0 : Option Addr) (c0 : Nat) (l : List Int) (w : World) (hr0 : Kd.C (Kd.int .i64) w A0 l.length l) (hc0 : l.length ≤ c0) (hlen : l.length ≤ 1000000)
    (hf : ∀ (x : Int) W, x ∈ l → Below w.heap.size w W → Calls Try.prog g (#[.int .i64 x] ++ cap) W fun e W' => e = .returned (.bool (P x)) ∧ Below W.heap.size W W') :
    Calls Try.prog 94 #[.slice A0 l.length c0, .func (.func g) #[] cap] w fun e w' => e = .returned (.bool (l.any P)) ∧ Below w.heap.size w w' := by
  have H := zA (IndexFunc80 g cap P eg A0 c0 l w hr0 hc0 hlen hf)
  clear hr0 hf hc0
  have E := zA (idxF_anyI (P := P) (l := l))
  generalize idxF P l = r at H E
  go_enter Try.func94, Try.ntmps94
  go_wp2_with (go_at_call 80; refine H.out.mono ?_; rintro e w' ⟨rfl, hb⟩)
  go_ret
  exact ⟨by rw [← E.out]; rfl, hb⟩
theorem idxF_atL {P : (List Int) → Bool} {l : List (List Int)} {i : Int} (h0 : 0 ≤ i) (h1 : i < l.length) (h : ∀ j : Nat, (j : Int) < i → P (rd_L6 l j) = false) (hp : P (rd_L6 l i) = true) : idxF P l = i := by
  have e : l.findIdx? P = some i.toNat := by
    rw [List.findIdx?_eq_some_iff_getElem]
    have g : ∀ j : Nat, (hj : j < l.length) → rd_L6 l (j : Int) = l[j] := by
      intro j hj
      unfold rd_L6
      rw [List.getD_eq_getElem?_getD, Int.toNat_natCast, List.getElem?_eq_getElem hj]; rfl
    refine ⟨by omega, ?_, ?_⟩
    · rw [← g, show ((i.toNat : Nat) : Int) = i by omega]; exact hp
    · intro j hj
      rw [← g j (by omega), h j (by omega)]; simp
  unfold idxF
  rw [e]
  show ((i.toNat : Nat) : Int) = i
  omega
theorem idxF_noneL {P : (List Int) → Bool} {l : List (List Int)} (h : ∀ j : Nat, j < l.length → P (rd_L6 l j) = false) : idxF P l = -1 := by
  have e : l.findIdx? P = none := by
    rw [List.findIdx?_eq_none_iff]
    intro x hx
    obtain ⟨j, hj, rfl⟩ := List.mem_iff_getElem.1 hx
    have := h j hj
    unfold rd_L6 at this
    rw [List.getD_eq_getElem?_getD, Int.toNat_natCast, List.getElem?_eq_getElem hj] at this
    exact this
  unfold idxF
  rw [e]
set_option maxHeartbeats 2000000 in
set_option maxRecDepth 100000 in
theorem IndexFunc101 (g : Nat) (cap : Array Value) (P : (List Int) → Bool)
    (eg : ∀ args w, (callFunc g args).run Try.prog w = .ok (.enter g args) w)
    (A0 : Option Addr) (c0 : Nat) (l : List (List Int)) (w : World) (hr0 : Kd.C (Kd.slice 3 (Kd.int .i64)) w A0 l.length l) (hc0 : l.length ≤ c0) (hlen : l.length ≤ 1000000)
    (hf : ∀ (x : List Int) A c W, x ∈ l → Below w.heap.size w W → x.length ≤ c → Kd.C (Kd.int .i64) W A x.length x → Calls Try.prog g (#[.slice A x.length c] ++ cap) W fun e W' => e = .returned (.bool (P x)) ∧ Below W.heap.size W W') :
    Calls Try.prog 101 #[.slice A0 l.length c0, .func (.func g) #[] cap] w fun e w' => e = .returned (.int .i64 (idxF P l)) ∧ Below w.heap.size w w' := by
  have HR := zA hr0
  have HF := zA hf
  have HC := zA hc0
  clear hr0 hf hc0
  go_enter Try.func101, Try.ntmps101
  go_wp2_with fail
  go_loopg [8] l.length (fun kq v8 w' => ∃ i : Int, v8 = .int .i64 i ∧ Aside0 (0 ≤ i ∧ (kq : Int) = l.length - i ∧ ∀ j : Nat, (j : Int) < i → P (rd_L6 l j) = false) ∧ Aside0 (Below w.heap.size w w'))
  case atStart => exact ⟨0, rfl, ⟨by omega, by omega, fun j hj => by omega⟩, ⟨Below.refl _ _⟩⟩
  case round =>
    obtain ⟨i, rfl, HI, HB⟩ := hrel
    by_cases c : i < (l.length : Int)
    · have p := HI.out.1
      obtain ⟨ad, Ax, cx, e, h0, hlx, hCx⟩ := at_L6 HR.out i p c
      cases e
      replace h0 := (HB.out.cell (World.block_lt_of_cell? w _ h0)).trans h0
      have HX := zA (And.intro hlx hCx)
      clear hlx hCx
      have hx : rd_L6 l i ∈ l := by
        unfold rd_L6
        rw [List.getD_eq_getElem?_getD, List.getElem?_eq_getElem (by omega)]
        exact List.getElem_mem _
      go_wp2_with fail
      refine (HF.out (rd_L6 l i) Ax cx _ hx HB.out HX.out.1 (Kd.C_below HX.out.2 HB.out)).mono ?_
      rintro e w' ⟨rfl, hb⟩
      have HB' := zA (HB.out.trans (hb.mono HB.out.size))
      clear hb
      by_cases hp : P (rd_L6 l i) = true
      · have hr : idxF P l = i := idxF_atL HI.out.1 c HI.out.2.2 hp
        have HR' := zA hr
        clear hr
        rw [hp]
        go_wp2
        go_ret
        exact ⟨by rw [HR'.out]; rfl, HB'.out⟩
      · replace hp : P (rd_L6 l i) = false := by simpa using hp
        have hall : ∀ j : Nat, (j : Int) < i + 1 → P (rd_L6 l j) = false := by
          intro j hj
          by_cases e : (j : Int) = i
          · rw [e]; exact hp
          · exact HI.out.2.2 j (by omega)
        have HA := zA hall
        clear hall
        have hi := HI.out.2.1
        rw [hp]
        go_wp2
        go_roundg (l.length - (i + 1)).toNat
        case measure => omega
        case rel => exact ⟨i + 1, by first | rfl | simp, ⟨by omega, by omega, HA.out⟩, HB'⟩
    · have hr : idxF P l = -1 := idxF_noneL (fun j hj => HI.out.2.2 j (by have := HI.out.2.1; omega))
      have HR' := zA hr
      clear hr
      go_wp2
      go_ret
      exact ⟨by rw [HR'.out]; rfl, HB.out⟩
theorem idxF_anyL {P : (List Int) → Bool} {l : List (List Int)} : decide (0 ≤ idxF P l) = l.any P := by
  unfold idxF
  cases h : l.findIdx? P with
  | some i =>
    rw [List.findIdx?_eq_some_iff_getElem] at h
    obtain ⟨hi, hp, _⟩ := h
    have : l.any P = true := List.any_eq_true.2 ⟨l[i], List.getElem_mem _, hp⟩
    rw [this]
    simp
  | none =>
    rw [List.findIdx?_eq_none_iff] at h
    have : l.any P = false := by
      rw [List.any_eq_false]
      intro x hx
      simp [h x hx]
    rw [this]; rfl
set_option maxHeartbeats 2000000 in
set_option maxRecDepth 100000 in
theorem ContainsFunc91 (g : Nat) (cap : Array Value) (P : (List Int) → Bool)
    (eg : ∀ args w, (callFunc g args).run Try.prog w = .ok (.enter g args) w)
    (A0 : Option Addr) (c0 : Nat) (l : List (List Int)) (w : World) (hr0 : Kd.C (Kd.slice 3 (Kd.int .i64)) w A0 l.length l) (hc0 : l.length ≤ c0) (hlen : l.length ≤ 1000000)
    (hf : ∀ (x : List Int) A c W, x ∈ l → Below w.heap.size w W → x.length ≤ c → Kd.C (Kd.int .i64) W A x.length x → Calls Try.prog g (#[.slice A x.length c] ++ cap) W fun e W' => e = .returned (.bool (P x)) ∧ Below W.heap.size W W') :
    Calls Try.prog 91 #[.slice A0 l.length c0, .func (.func g) #[] cap] w fun e w' => e = .returned (.bool (l.any P)) ∧ Below w.heap.size w w' := by
  have H := zA (IndexFunc101 g cap P eg A0 c0 l w hr0 hc0 hlen hf)
  clear hr0 hf hc0
  have E := zA (idxF_anyL (P := P) (l := l))
  generalize idxF P l = r at H E
  go_enter Try.func91, Try.ntmps91
  go_wp2_with (go_at_call 101; refine H.out.mono ?_; rintro e w' ⟨rfl, hb⟩)
  go_ret
  exact ⟨by rw [← E.out]; rfl, hb⟩
theorem w64s {x : Int} (h0 : 0 ≤ x) (h1 : x ≤ 1000000000) : wrap64 x = x := by unfold wrap64; omega
theorem concatI_two (d c : List (List Int)) (h : d.length + c.length ≤ 1000000) : pump_concatI.f 7 [d, c] = some (d ++ c) := by
  have a0 : ((rd_L9 [d, c] 0).length : Int) = d.length := rfl
  have a1 : ((rd_L9 [d, c] 1).length : Int) = c.length := rfl
  have b0 : (rd_L9 [d, c] 0) = d := rfl
  have b1 : (rd_L9 [d, c] 1) = c := rfl
  simp only [pump_concatI.f, pump_concatI.l0, pump_concatI.l1, List.length_cons, List.length_nil]
  rw [show wrap64 (0 + 1) = 1 from (w64s (by omega) (by omega)).trans (by decide), show wrap64 (1 + 1) = 2 from (w64s (by omega) (by omega)).trans (by decide), a0, a1, b0, b1]
  rw [w64s (x := 0 + (d.length : Int)) (by omega) (by omega), w64s (x := 0 + (d.length : Int) + c.length) (by omega) (by omega)]
  simp
  omega
theorem lit2_C (A0 A1 : Option Addr) (c0 c1 : Nat) (d c : List (List Int)) (W : World) (h0 : Kd.C (Kd.slice 3 (Kd.int .i64)) W A0 d.length d) (hc0 : d.length ≤ c0) (h1 : Kd.C (Kd.slice 3 (Kd.int .i64)) W A1 c.length c) (hc1 : c.length ≤ c1) :
    Kd.C (Kd.slice 30 (Kd.slice 3 (Kd.int .i64))) (W.alloc (.cells #[.slice A0 d.length c0, .slice A1 c.length c1] 54)) (some ⟨W.heap.size, 0, none⟩) ([d, c] : List (List (List Int))).length [d, c] := by
  have hb := heap_alloc_new W (.cells #[.slice A0 d.length c0, .slice A1 c.length c1] 54)
  have bb : Below W.heap.size W (W.alloc (.cells #[.slice A0 d.length c0, .slice A1 c.length c1] 54)) := below_alloc (Below.refl _ _) _
  refine ⟨rfl, (show 2 ≤ 9223372036854775807 by decide), fun _ => ⟨_, rfl, fun j p hj => ?_⟩⟩
  have hcell : ∀ i u, (#[Value.slice A0 d.length c0, .slice A1 c.length c1] : Array Value)[i]? = some u → (W.alloc (.cells #[.slice A0 d.length c0, .slice A1 c.length c1] 54)).cell? ⟨W.heap.size, i, none⟩ = some u := fun i u hu => by
    unfold World.cell?
    rw [show (⟨W.heap.size, i, none⟩ : Addr).block = W.heap.size from rfl, hb]; exact hu
  match j, hj with
  | 0, hj =>
    cases hj
    refine ⟨[.slice A0 d.length c0], rfl, ⟨A0, c0, rfl, hc0, Kd.C_below h0 bb⟩, fun i u hu => ?_⟩
    match i, hu with
    | 0, hu => cases hu; exact hcell 0 _ rfl
    | i + 1, hu => cases hu
  | 1, hj =>
    cases hj
    refine ⟨[.slice A1 c.length c1], rfl, ⟨A1, c1, rfl, hc1, Kd.C_below h1 bb⟩, fun i u hu => ?_⟩
    match i, hu with
    | 0, hu => cases hu; exact hcell 1 _ rfl
    | i + 1, hu => cases hu
  | j + 2, hj => cases hj
theorem concat_c (A0 A1 : Option Addr) (c0 c1 : Nat) (d c : List (List Int)) (W : World) (h0 : Kd.C (Kd.slice 3 (Kd.int .i64)) W A0 d.length d) (hc0 : d.length ≤ c0) (h1 : Kd.C (Kd.slice 3 (Kd.int .i64)) W A1 c.length c) (hc1 : c.length ≤ c1) (hn : d.length + c.length ≤ 1000000) :
    Calls Try.prog 89 #[.slice (some ⟨W.heap.size, 0, none⟩) 2 2] (W.alloc (.cells #[.slice A0 d.length c0, .slice A1 c.length c1] 54)) fun e w' => ∃ A cc, e = .returned (.slice A (d ++ c).length cc) ∧ (d ++ c).length ≤ cc ∧ Kd.C (Kd.slice 3 (Kd.int .i64)) w' A (d ++ c).length (d ++ c) ∧ Below W.heap.size W w' := by
  have hC := lit2_C A0 A1 c0 c1 d c W h0 hc0 h1 hc1
  have hV : Kd.V (Kd.slice 30 (Kd.slice 3 (Kd.int .i64))) 54 (W.alloc (.cells #[.slice A0 d.length c0, .slice A1 c.length c1] 54)) (W.alloc (.cells #[.slice A0 d.length c0, .slice A1 c.length c1] 54)).heap.size (fun k => k < (W.alloc (.cells #[.slice A0 d.length c0, .slice A1 c.length c1] 54)).heap.size) (.slice (some ⟨W.heap.size, 0, none⟩) 2 2) [d, c] :=
    Kd.V_mk (c := 2) (Nat.le_refl _) (Kd.C_F (Kd.heap_slice 30 (Kd.heap_slice 3 (Kd.heap_int .i64))) hC)
  refine (pump_concatI.calls 7 _ _ 2 [d, c] (d ++ c) _ hV (concatI_two d c hn)).mono ?_
  rintro e w' ⟨v, rfl, hN, hB⟩
  obtain ⟨A, cc, rfl⟩ := Kd.N_slice hN
  obtain ⟨_, hl, hC2⟩ := Kd.N_reads' hN
  exact ⟨A, cc, rfl, hl, hC2, (below_alloc (Below.refl _ _) _).trans (hB.mono (by simp))⟩
end Go.Proofs.Ythoeindopljmkaa.P
end
