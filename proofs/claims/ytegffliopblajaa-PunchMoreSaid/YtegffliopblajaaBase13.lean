/- Words and contracts for a claim. -/
import Derived.Test.YtegffliopblajaaBase12
import Derived.LoopN
import Derived.Scope
section
namespace Go.Proofs.Ytegffliopblajaa.P
open Go.RowKit Go.Shelf Go.Proofs.YtegffliopblajaaW.PrintWords Go.Proofs.YtegffliopblajaaW.PrintLast Go.Proofs.YtegffliopblajaaW.PrintMore
set_option linter.unusedVariables false
set_option linter.unusedSimpArgs false
attribute [local go_sem] Oper.semAt_some
def KeepC (A B : World) : Prop := A.heap.size ≤ B.heap.size ∧ ∀ (k : Nat) (o : Obj), A.heap[k]? = some o → o.isCells = true → B.heap[k]? = some o
theorem KeepC.refl (A : World) : KeepC A A := ⟨Nat.le_refl _, fun _ _ h _ => h⟩
theorem KeepC.trans {A B C : World} (h : KeepC A B) (k : KeepC B C) : KeepC A C := ⟨Nat.le_trans h.1 k.1, fun i o hi ho => k.2 i o (h.2 i o hi ho) ho⟩
theorem KeepC.putObj (W : World) (l : Nat) (o o' : Obj) (h : W.heap[l]? = some o) (ho : o.isCells = false) : KeepC W (W.putObj l o') := by
  refine ⟨by simp [World.putObj], fun i u hi hu => ?_⟩
  by_cases e : l = i
  · subst e; rw [h] at hi; injection hi with hi; subst hi; rw [ho] at hu; cases hu
  · exact (World.putObj_heap_other (Ne.symm e)).trans hi
def loopBody : Code → Option Code
  | .seq x y => match loopBody x with | some b => some b | none => loopBody y
  | .block _ c => loopBody c
  | .loop c => some c
  | .scope c => loopBody c
  | .cond _ x y => match loopBody x with | some b => some b | none => loopBody y
  | _ => none
def Marks (base : Nat) (W : World) : Nat → List Deferred → Prop
  | _, [] => True
  | B, d :: ds => ∃ D, d = { target := .collected D, args := #[] } ∧ base ≤ D ∧ D < B ∧ W.heap[D]? = some (.deferred (some [])) ∧ Marks base W D ds
theorem Marks.keep {base : Nat} {W W' : World} (hk : ∀ (k : Nat) (o : Obj), W.heap[k]? = some o → o.isCells = false → W'.heap[k]? = some o) : ∀ {B : Nat} {ds : List Deferred}, Marks base W B ds → Marks base W' B ds
  | _, [], _ => trivial
  | _, _ :: _, ⟨D, e, h1, h2, h3, h4⟩ => ⟨D, e, h1, h2, hk _ _ h3 rfl, Marks.keep hk h4⟩
theorem Marks.mono {base : Nat} {W : World} : ∀ {B B' : Nat} {ds : List Deferred}, Marks base W B ds → B ≤ B' → Marks base W B' ds
  | _, _, [], _, _ => trivial
  | _, _, _ :: _, ⟨D, e, h1, h2, h3, h4⟩, h => ⟨D, e, h1, Nat.lt_of_lt_of_le h2 h, h3, h4⟩
theorem Marks.put {base : Nat} {W : World} {j : Nat} {o : Obj} : ∀ {B : Nat} {ds : List Deferred}, Marks base W B ds → B ≤ j → Marks base (W.putObj j o) B ds
  | _, [], _, _ => trivial
  | _, _ :: _, ⟨D, e, h1, h2, h3, h4⟩, h => ⟨D, e, h1, h2, (World.putObj_heap_other (by omega)).trans h3, Marks.put h4 (by omega)⟩
theorem leaves {fn : Func} {tmps : Array Value} {R : Ending → World → Prop} {base : Nat} : ∀ (ds : List Deferred) (B : Nat) (W : World), Marks base W B ds → base ≤ W.heap.size →
    (∀ W', Below base W W' → KeepC W W' → ∃ v, (results fn tmps).run Try.prog W' = .ok v W' ∧ R (.returned v) W') → LeavesInM Fence.wide 10 Try.prog fn tmps R ds .returning W
  | [], _, W, _, _, h => h W (Below.refl _ _) (KeepC.refl _)
  | _ :: ds, B, W, ⟨D, e, h1, h2, h3, h4⟩, hb, h => by
    subst e
    refine ⟨by simp, .inl ⟨D, _, rfl, run_takeDeferred h3, ?_⟩⟩
    have kc := KeepC.putObj W D (.deferred (some [])) (.deferred none) h3 rfl
    have hg := grownBy_putObj' W D (.deferred none)
    have bb : Below base W (W.putObj D (.deferred none)) := ⟨hg.os, hg.tape, hg.output, hg.size, fun k hk => hg.block k (by omega) (by simp; omega)⟩
    exact leaves ds D _ (h4.put (Nat.le_refl _)) (Nat.le_trans hb hg.size) (fun W' hW hk => h W' (bb.trans hW) (kc.trans hk))
theorem cell_new_at (W : World) (v : Value) (t n : Nat) (h : n = W.heap.size) : (W.alloc (.cells #[v] t)).cell? ⟨n, 0, none⟩ = some v := by
  subst h
  have := heap_alloc_new W (.cells #[v] t)
  unfold World.cell?
  rw [show (⟨W.heap.size, 0, none⟩ : Addr).block = W.heap.size from rfl, this]; rfl
theorem set_one {W : World} {b t : Nat} {u v : Value} (h : W.heap[b]? = some (.cells #[u] t (0, 0))) : (W.setCell ⟨b, 0, none⟩ v).heap[b]? = some (.cells #[v] t (0, 0)) := by
  have hlt := (Array.getElem?_eq_some_iff.1 h).1
  unfold World.setCell
  simp only [Array.getElem?_modify, if_true, h]
  rfl
def IsMex (cs : List Int) (m : Nat) : Prop := (m : Int) ∉ cs ∧ ∀ j : Nat, j < m → (j : Int) ∈ cs
theorem cover_len : ∀ {n : Nat} {cs : List Int}, (∀ j : Nat, j < n → (j : Int) ∈ cs) → n ≤ cs.length
  | 0, _, _ => Nat.zero_le _
  | n + 1, cs, h => by
    have h1 := h n (Nat.lt_succ_self n)
    have h2 : n ≤ (cs.erase (n : Int)).length := cover_len (fun j hj => (List.mem_erase_of_ne (by omega)).2 (h j (by omega)))
    rw [List.length_erase_of_mem h1] at h2
    have := List.length_pos_of_mem h1
    omega
theorem clashL_len (l : List S47) (ps : List Int) (rest a b : Int) : ∀ (r f : Nat), (clashL l ps rest a b r f).length ≤ r
  | 0, _ => Nat.le_refl _
  | r + 1, f => by
    have := clashL_len l ps rest a b r (f + 1)
    rw [clashL]
    split
    · rw [List.length_cons]; omega
    · omega
def T61 (B g3 g5 : Nat) (a b : Int) (v4 : Value) (s : Nat → Value) : Array Value := #[.pointer (some ⟨B, 0, none⟩), .agg #[.int .i64 a, .int .i64 b], s 2, .pointer (some ⟨g3, 0, none⟩), v4, .pointer (some ⟨g5, 0, none⟩), s 6, s 7, s 8, s 9, s 10, s 11, s 12, s 13, s 14, s 15, s 16]
set_option maxHeartbeats 8000000 in
set_option maxRecDepth 100000 in
theorem smallest_rounds (B g3 g5 : Nat) (rest : Int) (A : Option Addr) (c : Nat) (l : List S47) (ps : List Int) (a b : Int) (w : World) (Q : Exit → Act → World → Prop) (hl : l.length ≤ 40) (hc : l.length ≤ c) (SHW : Sh w B rest A l.length c ps) (hC : Kd.C k47 w A l.length l)
  (h3 : w.heap.size ≤ g3) (h5 : w.heap.size ≤ g5) (h35 : g3 ≠ g5) (L : Code) (hL : Try.f61.body.bind loopBody = some L)
  (hRet : ∀ ds W s (m : Nat), Below w.heap.size w W → Marks w.heap.size W W.heap.size ds → IsMex (clashL l ps rest a b l.length 0) m → Q .ret { tmps := T61 B g3 g5 a b (.int .i64 m) s, defers := ds } W) :
  ∀ (k : Nat) (n : Nat) (ds : List Deferred) (W : World) (s : Nat → Value), (clashL l ps rest a b l.length 0).length + 1 ≤ n + k → Below w.heap.size w W → Marks w.heap.size W W.heap.size ds →
   W.heap[g3]? = some (.cells #[.int .i64 a, .int .i64 b] 47 (0, 0)) → W.heap[g5]? = some (.cells #[.int .i64 n] 3 (0, 0)) → (∀ j : Nat, j < n → (j : Int) ∈ clashL l ps rest a b l.length 0) →
   Code.rounds Try.prog L Q k { tmps := T61 B g3 g5 a b (.int .i64 0) s, defers := ds } W := by
 have hu47 := Try.underlying47
 simp only [Try.f61, Option.bind, loopBody] at hL
 obtain rfl := Option.some.inj hL
 clear hL
 intro k
 induction k with
 | zero =>
  intro n ds W s hn _ _ _ _ hj
  have := cover_len hj
  omega
 | succ k ih =>
  intro n ds W s hn hW hM o3 o5 hj
  have hnc := cover_len hj
  have IH := zA ih
  have HR := zA hRet
  have HN := zA hn
  have HW := zA hW
  have HM := zA hM
  have O3 := zA o3
  have O5 := zA o5
  have HJ := zA hj
  have NC := zA hnc
  have SH := zA SHW
  have HC := zA hC
  have c30 : W.cell? ⟨g3, 0, none⟩ = some (.int .i64 a) := (blk_cell o3 0).trans rfl
  have c31 : W.cell? ⟨g3, 1, none⟩ = some (.int .i64 b) := (blk_cell o3 1).trans rfl
  clear ih hRet hn hW hM o3 o5 hj hnc SHW hC
  unfold Code.rounds T61
  go_wp2_with fail
  refine (clashes_c _ _ _ _).mono ?_
  rintro e W2 ⟨rfl, hW2⟩
  have l3 : g3 < W.heap.size := (Array.getElem?_eq_some_iff.1 O3.out).1
  have l5 : g5 < W.heap.size := (Array.getElem?_eq_some_iff.1 O5.out).1
  have bW2 : Below W.heap.size W W2 := by rw [hW2]; exact below_alloc (below_alloc (Below.refl _ _) _) _
  have sz2 : W2.heap.size = W.heap.size + 2 := by rw [hW2]; simp
  have cx : W2.cell? ⟨W.heap.size, 0, none⟩ = some (.pointer (some ⟨B, 0, none⟩)) := by rw [hW2]; exact Lib.cell?_alloc_some _ (cell_new_at _ _ _ _ rfl)
  have ca : W2.cell? ⟨W.heap.size + 1, 0, none⟩ = some (.int .i64 a) := by rw [hW2]; have := cell_new_two0 (W.alloc (.cells #[.pointer (some ⟨B, 0, none⟩)] 104)) (.int .i64 a) (.int .i64 b) 47; rw [World.size_alloc] at this; exact this
  have cb : W2.cell? ⟨W.heap.size + 1, 1, none⟩ = some (.int .i64 b) := by rw [hW2]; have := cell_new_two1 (W.alloc (.cells #[.pointer (some ⟨B, 0, none⟩)] 104)) (.int .i64 a) (.int .i64 b) 47; rw [World.size_alloc] at this; exact this
  have b02 : Below w.heap.size w W2 := HW.out.trans (bW2.mono HW.out.size)
  have o32 := (bW2.block g3 l3).trans O3.out
  have o52 := (bW2.block g5 l5).trans O5.out
  have hM2 : Marks w.heap.size W2 W2.heap.size ds := (HM.out.keep (fun k o ho _ => (bW2.block k (Array.getElem?_eq_some_iff.1 ho).1).trans ho)).mono bW2.size
  have M2 := zA hM2
  have B02 := zA b02
  have O32 := zA o32
  have O52 := zA o52
  have BW2 := zA bW2
  have l32 : g3 < W2.heap.size := by omega
  have l52 : g5 < W2.heap.size := by omega
  clear hM2 b02 o32 o52 bW2 hW2 c30 c31
  go_wp2_with fail
  refine wpIn_wide.1 (wpIn_rangeFunc_ownF (n := 10) rfl (by omega) rfl trivial (enters_of Try.func90 (by kernel_rfl) rfl)
   (clashes_stops B W.heap.size (W.heap.size + 1) rest A c l ps a b W2 hl hc (SH.out.below B02.out) (Kd.C_below HC.out B02.out) cx ca cb)
   belowK_t (belowK_b (Nat.le_refl _)) (Below.refl _ _) (fun _ => rfl)
   (fun pre W' => Below W2.heap.size W2 W' ∧ (n : Int) ∉ pre)
   (fun c pre W' => c = .exit 1 ∧ (n : Int) ∈ pre ∧ (∀ (k : Nat) (o : Obj), W2.heap[k]? = some o → o.isCells = false → W'.heap[k]? = some o) ∧ Below w.heap.size w W' ∧ W2.heap.size ≤ W'.heap.size ∧ W'.heap[g3]? = some (.cells #[.int .i64 a, .int .i64 b] 47 (0, 0)) ∧ W'.heap[g5]? = some (.cells #[.int .i64 (n + 1 : Nat)] 3 (0, 0)))
   ?hI ?hIx ⟨Below.refl _ _, fun hx => by cases hx⟩
   (fun x => { tmps := #[.pointer (some ⟨B, 0, none⟩), .agg #[.int .i64 a, .int .i64 b], s 2, .pointer (some ⟨g3, 0, none⟩), .int .i64 0, .pointer (some ⟨g5, 0, none⟩), .int .i64 x, .pointer (some ⟨B, 0, none⟩), .agg #[.int .i64 a, .int .i64 b], .func (.func 90) #[] #[.pointer (some ⟨W.heap.size, 0, none⟩), .pointer (some ⟨W.heap.size + 1, 0, none⟩)], .int .i64 x, s 11, s 12, s 13, s 14, s 15, s 16], defers := [] }) ?assign ?body ?done ?stop)
  case hI =>
   intro pre A' B' row hs hg hrow
   exact ⟨hs.1.trans ⟨hg.os, hg.tape, hg.output, hg.size, fun k hk => hg.block k (by have := hs.1.size; omega) (fun e => by obtain ⟨h1, _⟩ := hrow k e.symm; omega)⟩, hs.2⟩
  case hIx =>
   intro c' pre A' B' row hs hg hrow
   obtain ⟨e, hm, h1, h2, h2s, h4, h6⟩ := hs
   have kb : KeepC A' B' := ⟨hg.size, fun k o hk ho => (hg.block k (Array.getElem?_eq_some_iff.1 hk).1 (fun e => by obtain ⟨_, o2, h9, h10⟩ := hrow k e.symm; rw [hk] at h9; injection h9 with h9; subst h9; rw [ho] at h10; cases h10)).trans hk⟩
   refine ⟨e, hm, fun k o hk ho => ?_, h2.trans ⟨hg.os, hg.tape, hg.output, hg.size, fun k hk => hg.block k (by have := h2.size; omega) (fun e => by obtain ⟨h1, _⟩ := hrow k e.symm; have := B02.out.size; omega)⟩, Nat.le_trans h2s hg.size, kb.2 _ _ h4 rfl, kb.2 _ _ h6 rfl⟩
   have hlt : k < W2.heap.size := (Array.getElem?_eq_some_iff.1 hk).1
   exact (hg.block k (by omega) (fun e => by obtain ⟨h1, _⟩ := hrow k e.symm; omega)).trans (h1 k o hk ho)
  case assign =>
   intro l' x W' K hK
   gi_wp2
   exact hK
  case body =>
   rintro lp pre x W1 ⟨hI, hall⟩ hlen
   have o51 := (hI.block g5 l52).trans O52.out
   have o31 := (hI.block g3 l32).trans O32.out
   have c51 : W1.cell? ⟨g5, 0, none⟩ = some (.int .i64 n) := (blk_cell o51 0).trans rfl
   have f51 := blk_frozen o51 0
   have HI := zA hI
   have HALL := zA hall
   have O51 := zA o51
   have O31 := zA o31
   clear hI hall o51 o31
   have hw : IntKind.i64.wrap ((n : Int) + 1) = ((n + 1 : Nat) : Int) := (i64_w _).trans (by have h1 := NC.out; have h2 := clashL_len l ps rest a b l.length 0; unfold wrap64; omega)
   by_cases hx : x = (n : Int)
   ·
    have hxd : decide (x = (n : Int)) = true := decide_eq_true hx
    gi_wp2
    have s1 := HI.out.size
    refine ⟨KeepsOthers.setCell _ _ _, rfl, by rw [hx]; simp, fun k o hk ho => ?_, (B02.out.trans (HI.out.mono B02.out.size)).setCell (p := ⟨g5, 0, none⟩) h5 _, by simpa [World.setCell] using s1, (Below.heap_setCell _ ⟨g5, 0, none⟩ _ _ h35).trans O31.out, set_one O51.out⟩
    refine (Below.heap_setCell _ _ _ _ (fun e => ?_)).trans ((HI.out.block k (Array.getElem?_eq_some_iff.1 hk).1).trans hk)
    replace e : k = g5 := e
    rw [e, O52.out] at hk
    injection hk with hk; subst hk; cases ho
   ·
    have hxd : decide (x = (n : Int)) = false := decide_eq_false hx
    gi_wp2
    exact ⟨KeepsOthers.refl _, Below.refl _ _, HI.out, fun hy => by
     rcases List.mem_append.1 hy with hy | hy
     ·
      exact HALL.out hy
     ·
      rw [List.mem_singleton] at hy; exact hx hy.symm⟩
  case done =>
   rintro D ys W' hD rfl ⟨hb, hall⟩ hmark
   have hM' : Marks w.heap.size W' W'.heap.size ({ target := .collected D, args := #[] } :: ds) :=
    ⟨D, rfl, by have := B02.out.size; omega, (Array.getElem?_eq_some_iff.1 hmark).1, hmark, (M2.out.keep (fun k o ho _ => (hb.block k (Array.getElem?_eq_some_iff.1 ho).1).trans ho)).mono hD⟩
   have o51 := (hb.block g5 l52).trans O52.out
   have c51 : W'.cell? ⟨g5, 0, none⟩ = some (.int .i64 n) := (blk_cell o51 0).trans rfl
   have KK : Aside0 (∀ tm : Array Value, tm = T61 B g3 g5 a b (.int .i64 n) (fun n => tm.getD n undef) → Q .ret { tmps := tm, defers := { target := .collected D, args := #[] } :: ds } W') := ⟨fun tm e => by
    have := HR.out _ W' (fun n => tm.getD n undef) n (B02.out.trans (hb.mono B02.out.size)) hM' ⟨hall, HJ.out⟩
    rwa [← e] at this⟩
   clear hM' hb hall hmark o51
   go_wp2
   refine KK.out _ ?_
   rfl
  case stop =>
   rintro D c' pre W' hD hSp ⟨rfl, hmem, hno, hbel, hsz, q3, q5⟩ hmark
   refine wpIn_exit ?_
   have hM' : Marks w.heap.size W' W'.heap.size ({ target := .collected D, args := #[] } :: ds) :=
    ⟨D, rfl, by have := B02.out.size; omega, (Array.getElem?_eq_some_iff.1 hmark).1, hmark, (M2.out.keep hno).mono hD⟩
   have hj2 : ∀ j : Nat, j < n + 1 → (j : Int) ∈ clashL l ps rest a b l.length 0 := fun j hj => by
    rcases Nat.lt_or_ge j n with h | h
    ·
     exact HJ.out j h
    ·
     obtain rfl : j = n := by omega
     exact hSp.subset hmem
   have KK : ∀ tm : Array Value, tm = T61 B g3 g5 a b (.int .i64 0) (fun n => tm.getD n undef) → Code.rounds Try.prog _ Q k { tmps := tm, defers := { target := .collected D, args := #[] } :: ds } W' := fun tm e => by
    have := IH.out (n + 1) _ W' (fun n => tm.getD n undef) (by have := HN.out; omega) hbel hM' q3 q5 hj2
    rwa [← e] at this
   change Code.rounds _ _ _ _ _ _
   refine KK _ ?_
   rfl
theorem results61 (tm : Array Value) (W : World) (v : Value) (h4 : tm.getD 4 undef = v) : (results Try.f61 tm).run Try.prog W = .ok v W := by
  have g4 : tm[4]?.getD undef = v := by simpa using h4
  simp [results, Try.f61, g4, go_sem]
set_option maxHeartbeats 8000000 in
set_option maxRecDepth 100000 in
theorem smallest_c (B : Nat) (rest : Int) (A : Option Addr) (c : Nat) (l : List S47) (ps : List Int) (a b : Int) (w : World) (hl : l.length ≤ 40) (hc : l.length ≤ c) (SHW : Sh w B rest A l.length c ps) (hC : Kd.C k47 w A l.length l) :
    Calls Try.prog 61 #[.pointer (some ⟨B, 0, none⟩), .agg #[.int .i64 a, .int .i64 b]] w fun e w' => ∃ m : Nat, e = .returned (.int .i64 m) ∧ IsMex (clashL l ps rest a b l.length 0) m ∧ Below w.heap.size w w' := by
  have hu47 := Try.underlying47
  refine callsIn_wide.1 (?_ : CallsIn Fence.wide 10 _ _ _ _ _)
  refine callsIn_of_wp_marks Try.func61 rfl trivial ?_
  refine wpIn_wide.2 ?_
  simp only [Try.ntmps61, List.size_toArray, List.length_cons, List.length_nil, Nat.reduceAdd, Nat.reduceSub, Array.replicate_succ, Array.replicate_zero, List.push_toArray, List.append_toArray, List.nil_append, List.cons_append]
  obtain ⟨W0, hW0⟩ : ∃ W0, ((w.alloc (.cells #[.int .i64 a, .int .i64 b] 47)).alloc (.cells #[.int .i64 0] 3)) = W0 := ⟨_, rfl⟩
  have o3 : W0.heap[w.heap.size]? = some (.cells #[.int .i64 a, .int .i64 b] 47 (0, 0)) := by
    rw [← hW0]
    exact (Below.heap_alloc _ _ _ (by simp)).trans (heap_alloc_new w _)
  have o5 : W0.heap[w.heap.size + 1]? = some (.cells #[.int .i64 0] 3 (0, 0)) := by
    rw [← hW0]
    have := heap_alloc_new (w.alloc (.cells #[.int .i64 a, .int .i64 b] 47)) (.cells #[.int .i64 0] 3)
    rw [World.size_alloc] at this
    exact this
  have b0 : Below w.heap.size w W0 := by rw [← hW0]; exact below_alloc (below_alloc (Below.refl _ _) _) _
  have key : ∀ (L : Code) (Q : Exit → Act → World → Prop), Try.f61.body.bind loopBody = some L →
      (∀ ds W s (m : Nat), Below w.heap.size w W → Marks w.heap.size W W.heap.size ds → IsMex (clashL l ps rest a b l.length 0) m → Q .ret { tmps := T61 B w.heap.size (w.heap.size + 1) a b (.int .i64 m) s, defers := ds } W) →
      ∀ tm : Array Value, tm = T61 B w.heap.size (w.heap.size + 1) a b (.int .i64 0) (fun n => tm.getD n undef) → Code.rounds Try.prog L Q ((clashL l ps rest a b l.length 0).length + 1) { tmps := tm, defers := [] } W0 := fun L Q hL hR tm e => by
    have := smallest_rounds B w.heap.size (w.heap.size + 1) rest A c l ps a b w Q hl hc SHW hC (Nat.le_refl _) (Nat.le_succ _) (by omega) L hL hR
      ((clashL l ps rest a b l.length 0).length + 1) 0 [] W0 (fun n => tm.getD n undef) (by omega) b0 trivial o3 o5 (fun j hj => by omega)
    rw [← e] at this
    exact this
  have KEY := zA key
  have HW := zA hW0
  clear key b0 o3 o5 hW0 SHW hC
  go_wp2
  refine wp_scope_straight ?_
  go_wp2
  refine wp_label ?_
  go_wp2
  rw [HW.out]
  refine wp_loop_rounds _ (KEY.out _ _ (by kernel_rfl) ?_ _ ?_)
  · intro ds W s m hB hM hX
    exact (show LeavesInM _ _ _ _ _ _ _ _ _ from leaves ds W.heap.size W hM hB.size (fun W' hb hk => ⟨_, results61 _ W' _ rfl, m, rfl, hX, hB.trans hb⟩))
  · rfl
end Go.Proofs.Ytegffliopblajaa.P
end
section
namespace Go.Proofs.Ytegffliopblajaa.P
open Go.Shelf Go.RowKit Go.Lib Go.Sort Go.Stb Go.Proofs Go.Proofs.YtegffliopblajaaW.PrintWords Go.Proofs.YtegffliopblajaaW.PrintLast Go.Proofs.YtegffliopblajaaW.PrintMore
set_option linter.unusedVariables false
set_option linter.unusedSimpArgs false
def ltS (l : List S47) (x y : Fin l.length) : Bool := decide ((rd_T47 l x.1).f0 < (rd_T47 l y.1).f0 ∨ (rd_T47 l x.1).f0 = (rd_T47 l y.1).f0 ∧ x.1 < y.1)
theorem ltS_swo (l : List S47) : SWO (ltS l) where
  irrefl x := by unfold ltS; exact decide_eq_false (by omega)
  trans x y z h1 h2 := by
    unfold ltS at *
    have a := of_decide_eq_true h1
    have b := of_decide_eq_true h2
    exact decide_eq_true (by omega)
  ntrans x y z h1 h2 := by
    unfold ltS at *
    have a := of_decide_eq_false h1
    have b := of_decide_eq_false h2
    exact decide_eq_false (by omega)
theorem ltS_total (l : List S47) (x y : Fin l.length) (h1 : ltS l x y = false) (h2 : ltS l y x = false) : x = y := by
  unfold ltS at *
  have a := of_decide_eq_false h1
  have b := of_decide_eq_false h2
  exact Fin.ext (by omega)
def ordF (l : List S47) : List (Fin l.length) := (List.finRange l.length).mergeSort (fun x y => !ltS l y x)
def ordL (l : List S47) : List Int := (ordF l).map fun i => (i.1 : Int)
theorem ordF_len (l : List S47) : (ordF l).length = l.length := by unfold ordF; rw [List.length_mergeSort, List.length_finRange]
theorem ordL_len (l : List S47) : (ordL l).length = l.length := by unfold ordL; rw [List.length_map, ordF_len]
theorem cmpI_lt (x y : Int) : decide (cmpI x y < 0) = decide (x < y) := by
  unfold cmpI
  by_cases c : x < y
  · rw [if_pos c]; simp [c]
  · rw [if_neg c]
    by_cases c2 : x > y
    · rw [if_pos c2]; simp [c]
    · rw [if_neg c2]; simp [c]
theorem sw_grown {α : Type} [Inhabited α] {enc : α → Value} {W W' : World} {blk off : Nat} {dk : Array α} (S : SW enc W blk off dk W') : W.grownBy W' (some blk) := by
  obtain ⟨n, os, rfl⟩ := S
  unfold sortWorld
  refine ⟨rfl, rfl, rfl, ?_, fun k hk hne => ?_⟩
  · rw [size_grow, size_putRow]
    exact Nat.le_add_right _ _
  · rw [heap_grow_old _ _ (by simpa using hk)]
    have : blk ≠ k := fun e => hne (by rw [e])
    simp [putRow, mapBlock, Sort.ahead, Array.getElem?_modify, this]
theorem cell_same {W W' : World} {a : Addr} (h : W'.heap[a.block]? = W.heap[a.block]?) : W'.cell? a = W.cell? a := by
  unfold World.cell?
  rw [h]
theorem Cells_other {α : Type} [Inhabited α] {enc : α → Value} {W W' : World} {blk off : Nat} {dk : Array α} (S : SW enc W blk off dk W') {a : Addr} {v : Value} (hc : W.cell? a = some v) (h : a.block ≠ blk) : W'.cell? a = some v :=
  (cell_same (a := a) ((sw_grown S).block _ (World.block_lt_of_cell? _ _ hc) (fun e => h (Option.some.inj e)))).trans hc
theorem sw_block {α : Type} [Inhabited α] {enc : α → Value} {W W' : World} {blk off : Nat} {dk : Array α} (S : SW enc W blk off dk W') (k : Nat) (hk : k < W.heap.size) (h : k ≠ blk) : W'.heap[k]? = W.heap[k]? :=
  (sw_grown S).block k hk (fun e => h (Option.some.inj e))
theorem sw_below {α : Type} [Inhabited α] {enc : α → Value} {W W' : World} {blk off : Nat} {dk : Array α} (S : SW enc W blk off dk W') {base : Nat} (hb : base ≤ blk) (hs : base ≤ W.heap.size) : Below base W W' :=
  have g := sw_grown S
  ⟨g.os, g.tape, g.output, g.size, fun k hk => g.block k (by omega) (fun e => by injection e with e; omega)⟩
set_option maxHeartbeats 4000000 in
set_option maxRecDepth 100000 in
theorem order58 (Bg Bj blk cap : Nat) (A : Option Addr) (c : Nat) (l : List S47) (W0 W : World) (h0 : 0 < l.length) (hl : l.length ≤ 40) (hg : W.cell? ⟨Bg, 0, none⟩ = some (.func (.func 57) #[] #[])) (hj : W.cell? ⟨Bj, 1, none⟩ = some (.slice A l.length c))
  (hr : Kd.C k47 W0 A l.length l) (hb : Below W0.heap.size W0 W) (hblk : W0.heap.size ≤ blk) (hlt : blk < W.heap.size) (ng : Bg ≠ blk) (nj : Bj ≠ blk)
  (hrow : ∀ i, i < l.length → W.cell? ⟨blk, i, none⟩ = some (.int .i64 i) ∧ W.frozen? ⟨blk, i, none⟩ = false) :
  Calls Try.prog 58 #[.slice (some ⟨blk, 0, none⟩) l.length cap, .func (.func 59) #[] #[.pointer (some ⟨Bg, 0, none⟩), .pointer (some ⟨Bj, 0, none⟩)]] W fun e w' => e = .returned (.tuple #[]) ∧
   (∀ i, i < l.length → w'.cell? ⟨blk, i, none⟩ = some (.int .i64 ((ordL l).getD i 0)) ∧ w'.frozen? ⟨blk, i, none⟩ = false) ∧ (∀ k, k < W.heap.size → k ≠ blk → w'.heap[k]? = W.heap[k]?) ∧ (∀ base, base ≤ blk → Below base W w') := by
 haveI : Inhabited (Fin l.length) := ⟨⟨0, h0⟩⟩
 have enc1 : OneCell (fun i : Fin l.length => Value.int .i64 (i.1 : Int)) := fun x => by rfl
 have hd : (List.finRange l.length).toArray.size = l.length := by simp
 have hget : ∀ i (h : i < l.length), (List.finRange l.length).toArray[i]! = ⟨i, h⟩ := fun i h => by
  rw [getElem!_pos _ i (by rw [hd]; exact h)]
  simp
 have R : Row1 (fun i : Fin l.length => Value.int .i64 (i.1 : Int)) W blk 0 (List.finRange l.length).toArray := ⟨enc1, fun i hi => by
  rw [hd] at hi
  rw [hget i hi, Nat.zero_add]
  exact hrow i hi, hlt⟩
 have hC : CmpLays1 Try.prog 59 #[.pointer (some ⟨Bg, 0, none⟩), .pointer (some ⟨Bj, 0, none⟩)] (fun i : Fin l.length => Value.int .i64 (i.1 : Int)) (fun x y => cmpI (rd_T47 l x.1).f0 (rd_T47 l y.1).f0) blk 0 (List.finRange l.length).toArray.size W := fun m os dk hdk x y => by
  have S : SW (fun i : Fin l.length => Value.int .i64 (i.1 : Int)) W blk 0 dk (sortWorld (fun i : Fin l.length => Value.int .i64 (i.1 : Int)) W blk 0 m dk os) := ⟨m, os, rfl⟩
  refine (closure59 x.1 y.1 Bg Bj (.int .i64 0) A c l _ (Cells_other S hg ng) (Cells_other S hj nj) (Kd.C_below hr (hb.trans (sw_below S hblk hb.size))) (by omega) (by have := x.2; omega) (by omega) (by have := y.2; omega)).mono ?_
  intro e w' h
  exact h
 have hst := (stable58 _ _ 59 _ blk 0 cap (List.finRange l.length).toArray W (enters_of Try.func59 (by kernel_rfl) rfl) hC R (by rw [hd]; exact hl))
 rw [hd] at hst
 refine hst.mono ?_
 rintro e w' ⟨rfl, S⟩
 have ht := stb_total (lt := ltOf (fun x y : Fin l.length => cmpI (rd_T47 l x.1).f0 (rd_T47 l y.1).f0)) (R := fun a b : Fin l.length => a.1 < b.1) (ltS_swo l) (ltS_total l) (fun x y h => by
  unfold ltOf ltS
  rw [cmpI_lt]
  exact decide_eq_decide.2 ⟨fun q => .inl q, fun q => by omega⟩) (d := (List.finRange l.length).toArray) (fun p q h1 h2 => by
  rw [hd] at h2
  rw [hget p (by omega), hget q h2]
  exact h1)
 have hz : (stb (ltOf (fun x y : Fin l.length => cmpI (rd_T47 l x.1).f0 (rd_T47 l y.1).f0)) (List.finRange l.length).toArray).size = l.length := by
  rw [← Array.length_toList, ht]; simp
 refine ⟨rfl, fun i hi => ?_, fun k hk hn => sw_block S k hk hn, fun base h => sw_below S h (by omega)⟩
 have e : (ordL l).getD i 0 = ((stb (ltOf (fun x y : Fin l.length => cmpI (rd_T47 l x.1).f0 (rd_T47 l y.1).f0)) (List.finRange l.length).toArray)[i]!).1 := by
  unfold ordL
  rw [getElem!_pos _ i (by omega), List.getD_eq_getElem?_getD, List.getElem?_map, List.getElem?_eq_getElem (by rw [ordF_len]; exact hi)]
  show (((ordF l)[i]'(by rw [ordF_len]; exact hi)).1 : Int) = _
  have : ordF l = (stb (ltOf (fun x y : Fin l.length => cmpI (rd_T47 l x.1).f0 (rd_T47 l y.1).f0)) (List.finRange l.length).toArray).toList := ht.symm
  simp only [this, Array.getElem_toList]
 have h1 := S.c1 R (by rw [hz, hd]) i (by rw [hz]; exact hi)
 have h2 := S.f1 R (by rw [hz, hd]) i (by rw [hz]; exact hi)
 rw [Nat.zero_add] at h1 h2
 exact ⟨by rw [e]; exact h1, h2⟩
end Go.Proofs.Ytegffliopblajaa.P
end
section
namespace Go.Proofs.Ytegffliopblajaa.P
open Go.Shelf Go.RowKit Go.Proofs.YtegffliopblajaaW.PrintWords Go.Proofs.YtegffliopblajaaW.PrintLast Go.Proofs.YtegffliopblajaaW.PrintMore
set_option linter.unusedVariables false
set_option linter.unusedSimpArgs false
set_option maxHeartbeats 4000000 in
set_option maxRecDepth 100000 in
theorem ins0 (v f : Value) (w : World) : Calls Try.prog 88 #[v, .int .i64 0, .int .i64 0, f] w fun e w' => e = .returned (.tuple #[]) ∧ w' = w := by
  go_enter Try.func88, Try.ntmps88
  go_wp2
  refine wp_loop_rounds 1 ?_
  rw [rounds_succ]
  go_wp2
  go_end0
  exact ⟨rfl, rfl⟩
set_option maxHeartbeats 4000000 in
set_option maxRecDepth 100000 in
theorem sort0_80 (v f : Value) (w : World) : Calls Try.prog 80 #[v, .int .i64 0, f] w fun e w' => e = .returned (.tuple #[]) ∧ w' = w := by
  go_enter Try.func80, Try.ntmps80
  go_wp2
  refine wp_loop_rounds 1 ?_
  rw [rounds_succ]
  go_wp2_with fail
  refine (ins0 v f w).mono ?_
  rintro e w1 ⟨rfl, rfl⟩
  go_wp2
  refine wp_loop_rounds 1 ?_
  rw [rounds_succ]
  go_wp2
  go_end0
  exact ⟨rfl, rfl⟩
set_option maxHeartbeats 4000000 in
set_option maxRecDepth 100000 in
theorem sort0_58 (a : Option Addr) (c : Nat) (f : Value) (w : World) : Calls Try.prog 58 #[.slice a 0 c, f] w fun e w' => e = .returned (.tuple #[]) ∧ w' = w := by
  go_enter Try.func58, Try.ntmps58
  go_wp2_with fail
  refine (sort0_80 _ f w).mono ?_
  rintro e w1 ⟨rfl, rfl⟩
  go_wp2
  go_end0
  exact ⟨rfl, rfl⟩
end Go.Proofs.Ytegffliopblajaa.P
end
