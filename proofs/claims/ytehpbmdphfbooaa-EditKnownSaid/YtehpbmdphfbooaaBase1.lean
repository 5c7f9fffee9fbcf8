/- Words and contracts for a claim. -/
import Derived.Maps.RangeWalk
import Derived.OwnWalk
import Derived.Below
import Derived.Deep.Draws
section
namespace Go.Proofs.Ytehpbmdphfbooaa.P
open Go.RowKit Go.ChangeMaps Go.MapKept
set_option linter.unusedVariables false
theorem perm_pick {α β : Type} [DecidableEq β] (f : α → β) {e : α} : ∀ {L : List α}, L.Pairwise (fun x y => f x ≠ f y) → e ∈ L → L.Perm (e :: L.filter fun x => decide (f x ≠ f e))
  | [], _, h => by simp at h
  | x :: L, hp, h => by
    obtain ⟨h1, h2⟩ := List.pairwise_cons.1 hp
    rcases List.mem_cons.1 h with e1 | h'
    · subst e1
      have e2 : (e :: L).filter (fun x => decide (f x ≠ f e)) = L := by
        rw [List.filter_cons, if_neg (by simp)]
        exact List.filter_eq_self.2 fun y hy => by simpa using (h1 y hy).symm
      rw [e2]
    · have hne : f x ≠ f e := h1 e h'
      rw [List.filter_cons, if_pos (by simpa using hne)]
      exact ((perm_pick f h2 h').cons x).trans (List.Perm.swap _ _ _)
theorem perm_of_map {α β : Type} {f : α → β} : ∀ {M : List α} {l : List β}, l.Perm (M.map f) → ∃ M0 : List α, M0.Perm M ∧ l = M0.map f := by
  intro M l h
  generalize hm : M.map f = m at h
  induction h generalizing M with
  | nil => exact ⟨[], by cases M <;> simp_all, rfl⟩
  | cons x _ ih =>
    cases M with
    | nil => simp at hm
    | cons y M =>
      simp only [List.map_cons, List.cons.injEq] at hm
      obtain ⟨M0, h1, h2⟩ := ih hm.2
      exact ⟨y :: M0, h1.cons y, by rw [List.map_cons, ← h2, hm.1]⟩
  | swap x y l =>
    match M, hm with
    | a :: b :: M, hm =>
      simp only [List.map_cons, List.cons.injEq] at hm
      exact ⟨b :: a :: M, List.Perm.swap _ _ _, by simp [hm.1, hm.2.1, hm.2.2]⟩
  | trans _ _ ih1 ih2 =>
    obtain ⟨M1, h1, h2⟩ := ih2 hm
    obtain ⟨M2, h3, h4⟩ := ih1 h2.symm
    exact ⟨M2, h3.trans h1, h4⟩
structure KeyE (P : Program) (k : TypeId) {K : Type} (ek : K → Value) : Prop where
  inj : ∀ a b, ek a = ek b → a = b
  check : ∀ (w : World) (em : Bool) a, (Instr.checkKey em 10000 k (ek a)).run P w = .ok () w
  find : ∀ (w : World) a (es : List MapEntry), (∀ e ∈ es, ∃ b, e.key = ek b) →
    ((Instr.findKey k (ek a) es).run P w = .ok none w ∧ ∀ e ∈ es, e.key ≠ ek a) ∨ ∃ j e, (Instr.findKey k (ek a) es).run P w = .ok (some (j, e.val)) w ∧ es[j]? = some e ∧ e.key = ek a
  stays : ∀ (w : World) a, (Instr.keyThatStays (ek a) (ek a)).run P w = .ok (ek a) w
section
variable {K V : Type} {ek : K → Value} {ev : V → Value}
def kvOf (x : MapEntry) : Value × Value := (x.key, x.val)
def evOf (ek : K → Value) (ev : V → Value) (p : K × V) : Value × Value := (ek p.1, ev p.2)
def HasM (w : World) (ek : K → Value) (ev : V → Value) (b : Nat) (M : List (K × V)) : Prop :=
  ∃ (es : Array MapEntry) (clock : Nat) (M0 : List (K × V)), w.heap[b]? = some (.map es clock) ∧ Stamped es clock ∧ M0.Perm M ∧ es.toList.map kvOf = M0.map (evOf ek ev)
variable {w : World} {b : Nat} {M : List (K × V)}
theorem HasM.made (w : World) (ek : K → Value) (ev : V → Value) : HasM (w.alloc (.map #[] 0)) ek ev w.heap.size [] :=
  ⟨#[], 0, [], (MapKept.heap_alloc w _).1, stamped_empty 0, List.Perm.refl _, rfl⟩
theorem HasM.lt (h : HasM w ek ev b M) : b < w.heap.size := by
  obtain ⟨es, clock, M0, hb, _⟩ := h
  exact (Array.getElem?_eq_some_iff.1 hb).1
theorem HasM.same (h : HasM w ek ev b M) {w' : World} (hg : w'.heap[b]? = w.heap[b]?) : HasM w' ek ev b M := by
  obtain ⟨es, clock, M0, hb, r⟩ := h
  exact ⟨es, clock, M0, hg.trans hb, r⟩
theorem HasM.drew (h : HasM w ek ev b M) (n : Nat) : HasM (w.drewN n) ek ev b M := h.same (by cases w; rfl)
theorem HasM.alloc (h : HasM w ek ev b M) (o : Obj) : HasM (w.alloc o) ek ev b M := h.same ((MapKept.heap_alloc w o).2 b h.lt)
theorem mem_of_entry {es : Array MapEntry} {M0 : List (K × V)} (he : es.toList.map kvOf = M0.map (evOf ek ev)) {x : MapEntry} (hx : x ∈ es.toList) : ∃ p ∈ M0, x.key = ek p.1 ∧ x.val = ev p.2 := by
  have : kvOf x ∈ M0.map (evOf ek ev) := he ▸ List.mem_map.2 ⟨x, hx, rfl⟩
  obtain ⟨p, hp, e⟩ := List.mem_map.1 this
  have e1 := congrArg Prod.fst e
  have e2 := congrArg Prod.snd e
  exact ⟨p, hp, e1.symm, e2.symm⟩
theorem entry_of_mem {es : Array MapEntry} {M0 : List (K × V)} (he : es.toList.map kvOf = M0.map (evOf ek ev)) {p : K × V} (hp : p ∈ M0) : ∃ x ∈ es.toList, x.key = ek p.1 ∧ x.val = ev p.2 := by
  have : evOf ek ev p ∈ es.toList.map kvOf := he ▸ List.mem_map.2 ⟨p, hp, rfl⟩
  obtain ⟨x, hx, e⟩ := List.mem_map.1 this
  exact ⟨x, hx, congrArg Prod.fst e, congrArg Prod.snd e⟩
theorem apart_of {es : Array MapEntry} {clock : Nat} (hs : Stamped es clock) {M0 : List (K × V)} (he : es.toList.map kvOf = M0.map (evOf ek ev)) : M0.Pairwise fun p q => p.1 ≠ q.1 := by
  have h1 := ((stamped_iff es clock).1 hs).2.2
  have h2 : (es.toList.map kvOf).Pairwise fun p q => p.1 ≠ q.1 := by rw [List.pairwise_map]; exact h1
  rw [he, List.pairwise_map] at h2
  exact h2.imp fun h e => h (by simp [evOf, e])
variable {P : Program} {k e t : TypeId}
theorem HasM.look_hit (h : HasM w ek ev b M) (KE : KeyE P k ek) (ht : P.underlying t = some (.map k e)) {a : K} {v : V} (hm : (a, v) ∈ M) (c : Bool) :
    (Instr.lookup t (.map (some b)) (ek a) c).run P w = .ok (if c then .tuple #[ev v, .bool true] else ev v) w := by
  obtain ⟨es, clock, M0, hb, hs, h0, he⟩ := h
  obtain ⟨x, hx, hk, hv⟩ := entry_of_mem he (h0.mem_iff.2 hm)
  rcases KE.find w a es.toList (fun y hy => by obtain ⟨p, _, h1, _⟩ := mem_of_entry he hy; exact ⟨_, h1⟩) with ⟨_, h2⟩ | ⟨j, e0, h1, h2, h3⟩
  · exact absurd hk (h2 x hx)
  · have e1 := entry_eq_of_key ((stamped_iff es clock).1 hs).2.2 (List.mem_of_getElem? h2) hx (h3.trans hk.symm)
    subst e1
    rw [← hv]
    simp [Instr.lookup, run_underlying ht, MapKept.run_getObj_map hb, KE.check w _ a, h1, Result.andThen]
theorem HasM.look_miss (h : HasM w ek ev b M) (KE : KeyE P k ek) (ht : P.underlying t = some (.map k e)) {z : Value} (hz : (zeroValue e).run P w = .ok z w) {a : K} (hm : ∀ p ∈ M, p.1 ≠ a) (c : Bool) :
    (Instr.lookup t (.map (some b)) (ek a) c).run P w = .ok (if c then .tuple #[z, .bool false] else z) w := by
  obtain ⟨es, clock, M0, hb, hs, h0, he⟩ := h
  rcases KE.find w a es.toList (fun y hy => by obtain ⟨p, _, h1, _⟩ := mem_of_entry he hy; exact ⟨_, h1⟩) with ⟨h1, _⟩ | ⟨j, e0, _, h2, h3⟩
  · simp [Instr.lookup, run_underlying ht, MapKept.run_getObj_map hb, KE.check w _ a, h1, hz, Result.andThen]
  · obtain ⟨p, hp, h4, _⟩ := mem_of_entry he (List.mem_of_getElem? h2)
    exact absurd (KE.inj _ _ (h4.symm.trans h3)) (hm p (h0.mem_iff.1 hp))
def getM [DecidableEq K] (M : List (K × V)) (a : K) : Option V := (M.find? fun p => decide (p.1 = a)).map Prod.snd
theorem getM_none [DecidableEq K] {M : List (K × V)} {a : K} (h : getM M a = none) : ∀ p ∈ M, p.1 ≠ a := by
  intro p hp e
  unfold getM at h
  rw [Option.map_eq_none_iff, List.find?_eq_none] at h
  exact h p hp (by simpa using e)
theorem getM_some [DecidableEq K] {M : List (K × V)} {a : K} {v : V} (h : getM M a = some v) : (a, v) ∈ M := by
  unfold getM at h
  obtain ⟨p, hp, rfl⟩ := Option.map_eq_some_iff.1 h
  have h1 := List.mem_of_find?_eq_some hp
  have h2 := List.find?_some hp
  simp only [decide_eq_true_eq] at h2
  rw [← h2]
  exact h1
theorem getM_cons [DecidableEq K] (M : List (K × V)) (a b : K) (v : V) : getM ((a, v) :: M) b = if a = b then some v else getM M b := by
  unfold getM
  rw [List.find?_cons]
  by_cases h : a = b <;> simp [h]
theorem getM_filter [DecidableEq K] (M : List (K × V)) (a b : K) : getM (M.filter fun p => decide (p.1 ≠ a)) b = if b = a then none else getM M b := by
  induction M with
  | nil => simp [getM]
  | cons p M ih =>
    rw [List.filter_cons]
    by_cases h : p.1 = a
    · rw [if_neg (by simpa using h), ih]
      by_cases hb : b = a
      · simp [hb]
      · rw [if_neg hb, if_neg hb, show p = (p.1, p.2) from rfl, getM_cons, if_neg (by rw [h]; exact fun e => hb e.symm)]
    · rw [if_pos (by simpa using h), show p = (p.1, p.2) from rfl, getM_cons, getM_cons, ih]
      by_cases hb : b = a
      · rw [if_pos hb, if_pos hb, if_neg (by rw [hb]; exact h)]
      · rw [if_neg hb, if_neg hb]
theorem getM_put [DecidableEq K] (M : List (K × V)) (a b : K) (v : V) : getM ((a, v) :: M.filter fun p => decide (p.1 ≠ a)) b = if a = b then some v else getM M b := by
  rw [getM_cons, getM_filter]
  by_cases h : a = b
  · rw [if_pos h, if_pos h]
  · rw [if_neg h, if_neg h, if_neg (fun e => h e.symm)]
theorem HasM.look [DecidableEq K] (h : HasM w ek ev b M) (KE : KeyE P k ek) (ht : P.underlying t = some (.map k e)) {z : Value} (hz : (zeroValue e).run P w = .ok z w) (a : K) :
    (Instr.lookup t (.map (some b)) (ek a) false).run P w = .ok ((getM M a).elim z ev) w := by
  cases hg : getM M a with
  | none => simpa using h.look_miss KE ht hz (getM_none hg) false
  | some v => simpa using h.look_hit KE ht (getM_some hg) false
theorem HasM.look_ok [DecidableEq K] (h : HasM w ek ev b M) (KE : KeyE P k ek) (ht : P.underlying t = some (.map k e)) {z : Value} (hz : (zeroValue e).run P w = .ok z w) (a : K) :
    (Instr.lookup t (.map (some b)) (ek a) true).run P w = .ok (.tuple #[(getM M a).elim z ev, .bool (getM M a).isSome]) w := by
  cases hg : getM M a with
  | none => simpa using h.look_miss KE ht hz (getM_none hg) true
  | some v => simpa using h.look_hit KE ht (getM_some hg) true
theorem HasM.len (h : HasM w ek ev b M) (ht : P.underlying t = some (.map k e)) (ty : TypeId) : (Builtin.len_ #[t] ty #[.map (some b)]).run P w = .ok (.int .i64 M.length) w := by
  obtain ⟨es, clock, M0, hb, hs, h0, he⟩ := h
  have e1 : es.size = M.length := by
    have := congrArg List.length he
    simp at this
    rw [this, h0.length_eq]
  rw [← e1]
  simp [Builtin.len_, run_underlying ht, MapKept.run_getObj_map hb, goInt, Result.andThen]
theorem HasM.store [DecidableEq K] (h : HasM w ek ev b M) (KE : KeyE P k ek) (ht : P.underlying t = some (.map k e)) (a : K) (v : V) :
    ∃ w', (Instr.mapUpdate t (.map (some b)) (ek a) (ev v)).run P w = .ok () w' ∧ HasM w' ek ev b ((a, v) :: M.filter fun p => decide (p.1 ≠ a)) ∧ w.mapTurned w' b := by
  obtain ⟨es, clock, M0, hb, hs, h0, he⟩ := h
  have hap := apart_of hs he
  rcases KE.find w a es.toList (fun y hy => by obtain ⟨p, _, h1, _⟩ := mem_of_entry he hy; exact ⟨_, h1⟩) with ⟨h1, h2⟩ | ⟨j, e0, h1, h2, h3⟩
  · refine ⟨_, by simp [Instr.mapUpdate, run_underlying ht, MapKept.run_getObj_map hb, KE.check w false a, h1, MapKept.run_setObj_map _ hb, Result.andThen]; rfl, ⟨es.push ⟨ek a, ev v, clock⟩, clock + 1, M0 ++ [(a, v)], heap_setBlock_same hb _, stamped_push hs h2, ?_, ?_⟩, ⟨es, clock, _, _, hb, rfl⟩⟩
    · have e1 : M.filter (fun p => decide (p.1 ≠ a)) = M := List.filter_eq_self.2 fun p hp => by
        obtain ⟨x, hx, hk, _⟩ := entry_of_mem he (h0.mem_iff.2 hp)
        simp only [decide_eq_true_eq]
        exact fun e9 => h2 x hx (by rw [hk, e9])
      rw [e1]
      exact (List.perm_append_singleton _ _).trans (h0.cons _)
    · simp [he, kvOf, evOf]
  · have hj : es[j]? = some e0 := by simpa using h2
    have hjl : j < es.toList.length := (List.getElem?_eq_some_iff.1 h2).1
    have hj0 : j < M0.length := by have := congrArg List.length he; simp at this; simp at hjl; omega
    have hpe : evOf ek ev M0[j] = kvOf e0 := by
      have h4 : (es.toList.map kvOf)[j]? = some (kvOf e0) := by simp [h2]
      rw [he, List.getElem?_map, List.getElem?_eq_getElem hj0] at h4
      simpa using h4
    have hpk : M0[j].1 = a := KE.inj _ _ ((congrArg Prod.fst hpe).trans h3)
    refine ⟨_, by simp [Instr.mapUpdate, run_underlying ht, MapKept.run_getObj_map hb, KE.check w false a, h1, hj, h3, KE.stays w a, MapKept.run_setObj_map _ hb, Result.andThen]; rfl, ⟨es.modify j (fun e' => { e' with key := ek a, val := ev v }), clock, M0.set j (a, v), heap_setBlock_same hb _, stamped_modify hs _ _ (fun _ _ => rfl) (fun e' _ he' => by rw [hj] at he'; cases he'; exact h3.symm), ?_, ?_⟩, ⟨es, clock, _, _, hb, rfl⟩⟩
    · have q1 := perm_pick (fun p : K × V => p.1) hap (List.getElem_mem hj0)
      have q2 : (M0.set j (a, v)).Perm ((a, v) :: M0.eraseIdx j) := set_perm _ _ hj0 _
      have q3 : (M0.eraseIdx j).Perm (M0.filter fun p => decide (p.1 ≠ a)) := by
        have q4 : M0.Perm (M0[j] :: M0.eraseIdx j) := by
          have := set_perm M0 j hj0 M0[j]
          rwa [List.set_getElem_self] at this
        rw [hpk] at q1
        exact (List.perm_cons _).1 (q4.symm.trans q1)
      exact q2.trans ((q3.trans (h0.filter _)).cons _)
    · rw [Array.toList_modify, modify_eq_set _ _ _ _ h2, List.map_set, he, List.map_set]
      rfl
theorem HasM.drop [DecidableEq K] (h : HasM w ek ev b M) (KE : KeyE P k ek) (ht : P.underlying t = some (.map k e)) (a : K) (ty : TypeId) :
    ∃ w', (Builtin.delete_ #[t, k] ty #[.map (some b), ek a]).run P w = .ok (.tuple #[]) w' ∧ HasM w' ek ev b (M.filter fun p => decide (p.1 ≠ a)) ∧ w.mapTurned w' b := by
  obtain ⟨es, clock, M0, hb, hs, h0, he⟩ := h
  have hap := apart_of hs he
  rcases KE.find w a es.toList (fun y hy => by obtain ⟨p, _, h1, _⟩ := mem_of_entry he hy; exact ⟨_, h1⟩) with ⟨h1, h2⟩ | ⟨j, e0, h1, h2, h3⟩
  · refine ⟨_, by simp [Builtin.delete_, run_underlying ht, MapKept.run_getObj_map hb, KE.check w _ a, h1, MapKept.run_setObj_map _ hb, Result.andThen]; rfl, ⟨es, clock, M0, heap_setBlock_same hb _, hs, ?_, he⟩, ⟨es, clock, _, _, hb, rfl⟩⟩
    have e1 : M.filter (fun p => decide (p.1 ≠ a)) = M := List.filter_eq_self.2 fun p hp => by
      obtain ⟨x, hx, hk, _⟩ := entry_of_mem he (h0.mem_iff.2 hp)
      simp only [decide_eq_true_eq]
      exact fun e9 => h2 x hx (by rw [hk, e9])
    rw [e1]
    exact h0
  · have hjl : j < es.toList.length := (List.getElem?_eq_some_iff.1 h2).1
    have hjs : j < es.size := by simpa using hjl
    have hj0 : j < M0.length := by have := congrArg List.length he; simp at this; simp at hjl; omega
    have hpe : evOf ek ev M0[j] = kvOf e0 := by
      have h4 : (es.toList.map kvOf)[j]? = some (kvOf e0) := by simp [h2]
      rw [he, List.getElem?_map, List.getElem?_eq_getElem hj0] at h4
      simpa using h4
    have hpk : M0[j].1 = a := KE.inj _ _ ((congrArg Prod.fst hpe).trans h3)
    have hsub : (es.eraseIdxIfInBounds j).toList = es.toList.eraseIdx j := by
      unfold Array.eraseIdxIfInBounds
      rw [dif_pos hjs]
      simp
    refine ⟨_, by simp [Builtin.delete_, run_underlying ht, MapKept.run_getObj_map hb, KE.check w _ a, h1, MapKept.run_setObj_map _ hb, Result.andThen]; rfl, ⟨es.eraseIdxIfInBounds j, clock, M0.eraseIdx j, heap_setBlock_same hb _, stamped_erase hs j, ?_, ?_⟩, ⟨es, clock, _, _, hb, rfl⟩⟩
    · have q1 := perm_pick (fun p : K × V => p.1) hap (List.getElem_mem hj0)
      have q4 : M0.Perm (M0[j] :: M0.eraseIdx j) := by
        have := set_perm M0 j hj0 M0[j]
        rwa [List.set_getElem_self] at this
      rw [hpk] at q1
      exact ((List.perm_cons _).1 (q4.symm.trans q1)).trans (h0.filter _)
    · rw [hsub, map_eraseIdx, he, map_eraseIdx]
def RunsM (w : World) (ek : K → Value) (ev : V → Value) (b r : Nat) (M left : List (K × V)) : Prop :=
  ∃ (es : Array MapEntry) (clock : Nat) (M0 : List (K × V)) (since : Nat) (seen : Array Nat) (c0 : Nat) (L0 : List (K × V)), w.heap[b]? = some (.map es clock) ∧ Stamped es clock ∧ M0.Perm M ∧ es.toList.map kvOf = M0.map (evOf ek ev) ∧
    w.heap[r]? = some (.mapIter (some b) since seen c0) ∧ (∀ x ∈ es.toList, x.born < since) ∧ since ≤ c0 ∧ since ≤ clock ∧ L0.Perm left ∧ (leftOf es seen).toList.map kvOf = L0.map (evOf ek ev)
theorem RunsM.has {r : Nat} {left : List (K × V)} (h : RunsM w ek ev b r M left) : HasM w ek ev b M := by
  obtain ⟨es, clock, M0, since, seen, c0, L0, hb, hs, h0, he, _⟩ := h
  exact ⟨es, clock, M0, hb, hs, h0, he⟩
theorem RunsM.lt {r : Nat} {left : List (K × V)} (h : RunsM w ek ev b r M left) : r < w.heap.size := by
  obtain ⟨es, clock, M0, since, seen, c0, L0, hb, hs, h0, he, hr, _⟩ := h
  exact (Array.getElem?_eq_some_iff.1 hr).1
theorem RunsM.ne {r : Nat} {left : List (K × V)} (h : RunsM w ek ev b r M left) : r ≠ b := by
  obtain ⟨es, clock, M0, since, seen, c0, L0, hb, hs, h0, he, hr, _⟩ := h
  intro e
  rw [e, hb] at hr
  cases hr
theorem RunsM.same {r : Nat} {left : List (K × V)} (h : RunsM w ek ev b r M left) {w' : World} (h1 : w'.heap[b]? = w.heap[b]?) (h2 : w'.heap[r]? = w.heap[r]?) : RunsM w' ek ev b r M left := by
  obtain ⟨es, clock, M0, since, seen, c0, L0, hb, hs, h0, he, hr, rest⟩ := h
  exact ⟨es, clock, M0, since, seen, c0, L0, h1.trans hb, hs, h0, he, h2.trans hr, rest⟩
theorem HasM.range (h : HasM w ek ev b M) (ht : P.underlying t = some (.map k e)) :
    ∃ w', (Instr.range t (.map (some b))).run P w = .ok (.pointer (some ⟨w.heap.size, 0, none⟩)) w' ∧ RunsM w' ek ev b w.heap.size M M ∧ w.grownBy w' none ∧ w'.heap.size = w.heap.size + 1 := by
  have hlt := h.lt
  obtain ⟨es, clock, M0, hb, hs, h0, he⟩ := h
  refine ⟨_, run_range_map w t k e b es clock ht hb, ⟨es, clock, M0, clock, #[], clock, M0, ((MapKept.heap_alloc w _).2 b hlt).trans hb, hs, h0, he, (MapKept.heap_alloc w _).1, hs.1, Nat.le_refl _, Nat.le_refl _, h0, ?_⟩, World.grownBy_alloc w _ none, by simp⟩
  rw [← he]
  simp only [leftOf, Array.toList_filter]
  exact congrArg _ (List.filter_eq_self.2 fun x _ => by simp)
theorem RunsM.next {r : Nat} {left : List (K × V)} (h : RunsM w ek ev b r M left) (ty : TypeId) :
  (left = [] ∧ (Instr.next (.pointer (some ⟨r, 0, none⟩)) false ty).run P w = .ok (.tuple #[.bool false]) w) ∨
  ∃ p left' w', left.Perm (p :: left') ∧ (Instr.next (.pointer (some ⟨r, 0, none⟩)) false ty).run P w = .ok (.tuple #[.bool true, ek p.1, ev p.2]) w' ∧ RunsM w' ek ev b r M left' ∧ w.grownBy w' (some r) ∧ w'.heap.size = w.heap.size ∧
   (Instr.entry (.pointer (some ⟨r, 0, none⟩))).run P w' = .ok (.tuple #[ek p.1, ev p.2]) w' := by
 have hne := h.ne
 obtain ⟨es, clock, M0, since, seen, c0, L0, hb, hs, h0, he, hr, hold, hsc, hsk, hl, hle⟩ := h
 have hn := ((stamped_iff es clock).1 hs).2.1
 rcases run_next_at (P := P) w ty r b since c0 seen es clock hr hb hold hsc with ⟨hz, hrun⟩ | ⟨e, hem, w1, hal, hrun⟩
 ·
  refine Or.inl ⟨?_, hrun⟩
  have e1 : L0.length = 0 := by
   have := congrArg List.length hle
   simp at this
   omega
  have e2 := hl.length_eq
  rw [e1] at e2
  exact List.eq_nil_of_length_eq_zero e2.symm
 ·
  obtain ⟨hmem, hes⟩ := mem_left hem
  have hr1 : w1.heap[r]? = some (.mapIter (some b) since seen c0) := by rcases hal with rfl | rfl <;> exact hr
  have hb1 : w1.heap[b]? = some (.map es clock) := by rcases hal with rfl | rfl <;> exact hb
  have hset := heap_set (o' := .mapIter (some b) since (seen.push e.born) clock) hr1
  have hb' : (setBlock w1 r (.mapIter (some b) since (seen.push e.born) clock)).heap[b]? = some (.map es clock) := (hset.2 b (fun e1 => hne e1.symm)).trans hb1
  have hpw : (leftOf es seen).toList.Pairwise fun x y => x.born ≠ y.born := by
   unfold leftOf
   rw [Array.toList_filter]
   exact (List.pairwise_map.1 hn).filter _
  have hpick := perm_pick MapEntry.born hpw hem
  have hleft : (leftOf es (seen.push e.born)).toList = (leftOf es seen).toList.filter fun x => decide (x.born ≠ e.born) := by
   unfold leftOf
   rw [Array.toList_filter, Array.toList_filter, List.filter_filter]
   refine List.filter_congr fun x _ => ?_
   rw [contains_push]
   cases seen.contains x.born <;> by_cases hx : x.born = e.born <;> simp [hx]
  have hp2 : (kvOf e :: (leftOf es (seen.push e.born)).toList.map kvOf).Perm (left.map (evOf ek ev)) := by
   have q := hpick.map kvOf
   rw [← hleft, hle, List.map_cons] at q
   exact q.symm.trans (hl.map _)
  obtain ⟨L1, hL1, hL2⟩ := perm_of_map hp2
  match L1, hL2, hL1 with
  | p :: L1, hL2, hL1 =>
   simp only [List.map_cons, List.cons.injEq] at hL2
   have ek1 : e.key = ek p.1 := congrArg Prod.fst hL2.1
   have ev1 : e.val = ev p.2 := congrArg Prod.snd hL2.1
   refine Or.inr ⟨p, L1, _, hL1.symm, by rw [← ek1, ← ev1]; exact hrun, ⟨es, clock, M0, since, seen.push e.born, clock, L1, hb', hs, h0, he, hset.1, hold, hsk, hsk, List.Perm.refl _, hL2.2⟩, ?_, ?_, by rw [← ek1, ← ev1]; exact run_entry_at _ r b since seen es clock e hset.1 hb' hmem hn⟩
   ·
    rcases hal with rfl | rfl <;> exact ⟨rfl, rfl, rfl, by simp [setBlock], fun i _ hi => hset.2 i (fun e1 => hi (by rw [e1]))⟩
   ·
    rcases hal with rfl | rfl <;> simp [setBlock]
end
end Go.Proofs.Ytehpbmdphfbooaa.P
end
