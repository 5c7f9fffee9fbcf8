/- Words and contracts for a claim. -/
import Derived.Test.YtehpbmdphfbooaaBase5
import Derived.DeepKeys
section
namespace Go.Proofs.Ytehpbmdphfbooaa.P
open Go.RowKit Go.ChangeMaps Go.MapKept Go.Proofs.YtehpbmdphfbooaaW.PrintWords
set_option linter.unusedVariables false
theorem keyInt {P : Program} {k : TypeId} (hk : P.underlying k = some (.int .i64)) : KeyE P k (fun a : Int => Value.int .i64 a) where
  inj a b h := by injection h
  check w em a := run_checkKey hk (show IsKey (.int .i64) (.int .i64 a) from rfl) em 9999
  find w a es h := by
    rcases findNow_spec (d := .int .i64) (k := Value.int .i64 a) (show IsKey (.int .i64) (.int .i64 a) from rfl) es 0 (fun x hx => by obtain ⟨b, hb⟩ := h x hx; rw [hb]; exact (show IsKey (.int .i64) (.int .i64 b) from rfl)) with ⟨h1, h2⟩ | ⟨j, e0, h1, h2, h3⟩
    · exact Or.inl ⟨run_findKey hk h1, h2⟩
    · exact Or.inr ⟨j, e0, by simpa using run_findKey hk h1, h2, h3⟩
  stays w a := run_keyThatStays (d := .int .i64) (show IsKey (.int .i64) (.int .i64 a) from rfl)
theorem keyOfEq {P : Program} {k : TypeId} {K : Type} [DecidableEq K] {ek : K → Value} (inj : ∀ a b, ek a = ek b → a = b) (hwide : (match P.underlying k with | some (.array _ _) | some (.struct _) => true | _ => false) = true)
    (check : ∀ (w : World) (em : Bool) a, (Instr.checkKey em 10000 k (ek a)).run P w = .ok () w) (heq : ∀ (w : World) a b, (Op.equal k (ek a) (ek b)).run P w = .ok (decide (a = b)) w) (stays : ∀ (w : World) a, (Instr.keyThatStays (ek a) (ek a)).run P w = .ok (ek a) w) : KeyE P k ek where
  inj := inj
  check := check
  stays := stays
  find w a es h := by
    rw [run_findKey_eq w hwide]
    have main : ∀ (es : List MapEntry) (i : Nat), (∀ e ∈ es, ∃ b, e.key = ek b) →
        ((Instr.findAsking k (ek a) es i).run P w = .ok none w ∧ ∀ e ∈ es, e.key ≠ ek a) ∨ ∃ j e, (Instr.findAsking k (ek a) es i).run P w = .ok (some (i + j, e.val)) w ∧ es[j]? = some e ∧ e.key = ek a := by
      intro es
      induction es with
      | nil => exact fun i _ => Or.inl ⟨by simp [Instr.findAsking], by simp⟩
      | cons e es ih =>
        intro i h
        obtain ⟨b, hb⟩ := h e (by simp)
        by_cases hab : a = b
        · refine Or.inr ⟨0, e, ?_, rfl, by rw [hb, hab]⟩
          simp [Instr.findAsking, hb, heq, hab, Result.andThen]
        · rcases ih (i + 1) (fun x hx => h x (by simp [hx])) with ⟨h1, h2⟩ | ⟨j, e0, h1, h2, h3⟩
          · refine Or.inl ⟨by simp [Instr.findAsking, hb, heq, hab, Result.andThen, h1], fun x hx => ?_⟩
            rcases List.mem_cons.1 hx with rfl | hx
            · rw [hb]; exact fun e9 => hab (inj _ _ e9).symm
            · exact h2 x hx
          · exact Or.inr ⟨j + 1, e0, by simp [Instr.findAsking, hb, heq, hab, Result.andThen, h1]; omega, by simpa using h2, h3⟩
    simpa using main es 0 h
def ekP (p : Int × Int) : Value := .agg #[.int .i64 p.1, .int .i64 p.2]
theorem equal106 (w : World) (a b : Int × Int) : (Op.equal 106 (ekP a) (ekP b)).run Try.prog w = .ok (decide (a = b)) w := by
  obtain ⟨a1, a2⟩ := a
  obtain ⟨b1, b2⟩ := b
  have hu106 := Try.underlying106
  have hu3 := Try.underlying3
  unfold ekP
  unfold Op.equal
  refine (eqA_of (r := decide (a1 = b1) && decide (a2 = b2)) hu106 (by kernel_rfl) ?_).trans ?_
  · refine eqf_cons (a := .int .i64 a1) (b := .int .i64 b1) (by rfl) (by go_simp) (by go_simp) ?_ (eqf_last (a := .int .i64 a2) (b := .int .i64 b2) (by rfl) (by go_simp) (by go_simp) ?_)
    · go_simp
      rfl
    · go_simp
      rfl
  · rw [show (decide (a1 = b1) && decide (a2 = b2)) = decide ((a1, a2) = (b1, b2)) from by rw [← Bool.decide_and]; exact decide_eq_decide.2 (by simp)]
theorem keyP : KeyE Try.prog 106 ekP := by
  have hu106 := Try.underlying106
  have hu3 := Try.underlying3
  refine keyOfEq ?_ (by kernel_rfl) ?_ equal106 ?_
  · rintro ⟨a1, a2⟩ ⟨b1, b2⟩ h
    simp [ekP] at h
    simp [h]
  · rintro w em ⟨a1, a2⟩
    unfold ekP
    have hi : ∀ a : Int, (Instr.checkKey em 9999 3 (.int .i64 a)).run Try.prog w = .ok () w := fun a => run_checkKey hu3 (show IsKey (.int .i64) (.int .i64 a) from rfl) em 9998
    rw [show (10000 : Nat) = 9999 + 1 from rfl]
    generalize (9999 : Nat) = d at hi ⊢
    unfold Instr.checkKey
    go_simp
  · rintro w ⟨a1, a2⟩
    simp [Instr.keyThatStays, ekP, Instr.sameBits]
end Go.Proofs.Ytehpbmdphfbooaa.P
end
section
namespace Go.Proofs.Ytehpbmdphfbooaa.P
open Go.RowKit Go.Proofs.YtehpbmdphfbooaaW.PrintWords Go.Proofs.YtehpbmdphfbooaaW.PrintLast Go.Proofs.YtehpbmdphfbooaaW.PrintMore
attribute [local go_sem] max2_int min2_int max_two min_two max_three min_three max_four min_four
set_option linter.unusedVariables false
set_option linter.unusedSimpArgs false
theorem eqA106 (d : Nat) (w : World) (x0 y0 : Int) (x1 y1 : Int) :
    (Op.equalIn (d + 2) 106 (.agg #[.int .i64 x0, .int .i64 x1]) (.agg #[.int .i64 y0, .int .i64 y1])).run Try.prog w = .ok (x0 == y0 && (x1 == y1)) w := by
  refine eqA_of Try.underlying106 (by kernel_rfl) ?_
  refine eqf_cons (by rfl) (by go_simp; rfl) (by go_simp; rfl) (by go_simp) ?_
  exact eqf_last (by rfl) (by go_simp; rfl) (by go_simp; rfl) (by go_simp)
end Go.Proofs.Ytehpbmdphfbooaa.P
end
section
namespace Go.Proofs.Ytehpbmdphfbooaa.P
open Go.RowKit Go.Proofs.YtehpbmdphfbooaaW.PrintWords Go.Proofs.YtehpbmdphfbooaaW.PrintLast Go.Proofs.YtehpbmdphfbooaaW.PrintMore
attribute [local go_sem] max2_int min2_int max_two min_two max_three min_three max_four min_four
set_option linter.unusedVariables false
set_option linter.unusedSimpArgs false
theorem eqA110 (d : Nat) (w : World) (x0 y0 : Int) (x1 y1 : Bool) :
    (Op.equalIn (d + 2) 110 (.agg #[.int .i64 x0, .bool x1]) (.agg #[.int .i64 y0, .bool y1])).run Try.prog w = .ok (x0 == y0 && (x1 == y1)) w := by
  refine eqA_of Try.underlying110 (by kernel_rfl) ?_
  refine eqf_cons (by rfl) (by go_simp; rfl) (by go_simp; rfl) (by go_simp) ?_
  exact eqf_last (by rfl) (by go_simp; rfl) (by go_simp; rfl) (by go_simp)
end Go.Proofs.Ytehpbmdphfbooaa.P
end
section
namespace Go.Proofs.Ytehpbmdphfbooaa.P
open Go.RowKit Go.Proofs.YtehpbmdphfbooaaW.PrintWords Go.Proofs.YtehpbmdphfbooaaW.PrintLast Go.Proofs.YtehpbmdphfbooaaW.PrintMore
attribute [local go_sem] max2_int min2_int max_two min_two max_three min_three max_four min_four
set_option linter.unusedVariables false
set_option linter.unusedSimpArgs false
theorem eqA111 (d : Nat) (w : World) (x0 y0 : Int) (x1 y1 : Int) (x2 y2 : Int) :
    (Op.equalIn (d + 2) 111 (.agg #[.int .i64 x0, .int .i64 x1, .int .i64 x2]) (.agg #[.int .i64 y0, .int .i64 y1, .int .i64 y2])).run Try.prog w = .ok (x0 == y0 && (x1 == y1 && (x2 == y2))) w := by
  refine eqA_of Try.underlying111 (by kernel_rfl) ?_
  refine eqf_cons (by rfl) (by go_simp; rfl) (by go_simp; rfl) (by go_simp) ?_
  refine eqf_cons (by rfl) (by go_simp; rfl) (by go_simp; rfl) (by go_simp) ?_
  exact eqf_last (by rfl) (by go_simp; rfl) (by go_simp; rfl) (by go_simp)
end Go.Proofs.Ytehpbmdphfbooaa.P
end
section
namespace Go.Proofs.Ytehpbmdphfbooaa.P
open Go.RowKit Go.Proofs.YtehpbmdphfbooaaW.PrintWords Go.Proofs.YtehpbmdphfbooaaW.PrintLast Go.Proofs.YtehpbmdphfbooaaW.PrintMore
attribute [local go_sem] max2_int min2_int max_two min_two max_three min_three max_four min_four
set_option linter.unusedVariables false
set_option linter.unusedSimpArgs false
attribute [local go_sem high] eqA67 eqA110 eqA111
def pianolalaw02_same.l0 : Nat → Int → List (S61) → List (S61) → List (S67) → List (S61) → List (S61) → List (S67) → Option (Bool)
  | 0, _, _, _, _, _, _, _ => none
  | k + 1, x5, x302000, x302001, x302002, x303000, x303001, x303002 => if x5 < (x302002.length : Int) then (if 0 ≤ x5 then (if x5 < (x303002.length : Int) then (if (!(((rd_T67 x302002 x5).f0) == ((rd_T67 x303002 x5).f0)) || (!(((rd_T67 x302002 x5).f1) == ((rd_T67 x303002 x5).f1)))) = true then (some false) else (pianolalaw02_same.l0 k (wrap64 (x5 + 1)) x302000 x302001 x302002 x303000 x303001 x303002)) else (none)) else (none)) else ((pianolalaw02_rolls.f k x302000 x303000).bind fun t305 => (if t305 = true then ((pianolalaw02_rolls.f k x302001 x303001).bind fun t306 => (some t306)) else (some false)))
def pianolalaw02_same.f (k : Nat) (l0_0 : List (S61)) (l0_1 : List (S61)) (l0_2 : List (S67)) (l1_0 : List (S61)) (l1_1 : List (S61)) (l1_2 : List (S67)) : Option (Bool) := if (l0_2.length : Int) = (l1_2.length : Int) then (pianolalaw02_same.l0 k 0 l0_0 l0_1 l0_2 l1_0 l1_1 l1_2) else (some false)
set_option maxHeartbeats 8000000 in
set_option maxRecDepth 100000 in
theorem pianolalaw02_same.calls (k : Nat) (ai : Option Addr) (aj : Nat) (af : List (S61)) (ak : Option Addr) (al : Nat) (ag : List (S61)) (am : Option Addr) (an : Nat) (ad : List (S67)) (ar : Option Addr) (au : Nat) (ap : List (S61)) (av : Option Addr) (aw : Nat) (aq : List (S61)) (ax : Option Addr) (ay : Nat) (ah : List (S67)) (r : Bool) (w : World) (aM : Kd.C k61 w ai af.length af) (aN : af.length ≤ aj) (aO : Kd.C k61 w ak ag.length ag) (aP : ag.length ≤ al) (aQ : Kd.C k67 w am ad.length ad) (aR : ad.length ≤ an) (aS : Kd.C k61 w ar ap.length ap) (aT : ap.length ≤ au) (aU : Kd.C k61 w av aq.length aq) (aV : aq.length ≤ aw) (aW : Kd.C k67 w ax ah.length ah) (aX : ah.length ≤ ay) (h : pianolalaw02_same.f k af ag ad ap aq ah = some r) :
  Calls Try.prog 25 #[.agg #[.slice ai af.length aj, .slice ak ag.length al, .slice am ad.length an], .agg #[.slice ar ap.length au, .slice av aq.length aw, .slice ax ah.length ay]] w fun e w' => e = .returned (.bool r) ∧ Below w.heap.size w w' := by
 have hu28 := Try.underlying28
 have hu67 := Try.underlying67
 have aC := zA aM
 have aD := zA aN
 clear aM aN
 have aI := zA aO
 have aJ := zA aP
 clear aO aP
 have aY := zA aQ
 have HC0_2 := zA aR
 clear aQ aR
 have aE := zA aS
 have aF := zA aT
 clear aS aT
 have aK := zA aU
 have aL := zA aV
 clear aU aV
 have aZ := zA aW
 have HC1_2 := zA aX
 clear aW aX
 have HB := zA (Below.refl w.heap.size w)
 have H : (if (ad.length : Int) = (ah.length : Int) then (pianolalaw02_same.l0 k 0 af ag ad ap aq ah) else (some false)) = some r := h
 clear h
 by_cases c3 : (ad.length : Int) = (ah.length : Int)
 ·
  rw [if_pos c3] at H
  have c3b0 : ((ad.length : Int) == (ah.length : Int)) = true := beq_iff_eq.mpr c3
  have c3b1 : ((ad.length : Int) != (ah.length : Int)) = false := bne_eq_false_iff_eq.mpr c3
  have c3b2 : (ad.length == ah.length) = true := by first | simpa using c3 | (simp at c3 ⊢; omega)
  clear c3
  have H' := zA H
  clear H
  go_enter Try.func25, Try.ntmps25
  go_wp2_with (first | ((with_reducible refine gate_dst (N := 2) rfl ?_); refine box_event ?hg (N := 2) ?hd (cs := #[.slice ai af.length aj, .slice ak ag.length al, .slice am ad.length an]) (t := 28) ?hr ?_; (case hd => rfl); (case hg => rfl); (case hr => first | (go_simp; done) | (go_simp; rfl)); intro ab hg w4 hbox hb; have aa := zA (hbox); have aG := zA ((by rw [hg]; exact (below_size (zqA HB.out)) : w.heap.size ≤ ab)); have ao := zA ((by rw [hg]; exact (below_size (zqA HB.out)) : w.heap.size ≤ ab)); replace HB := zA (below_step (zqA HB.out) hb); clear hb hbox hg) | ((with_reducible refine gate_dst (N := 3) rfl ?_); refine box_event ?hg (N := 3) ?hd (cs := #[.slice ar ap.length au, .slice av aq.length aw, .slice ax ah.length ay]) (t := 28) ?hr ?_; (case hd => rfl); (case hg => rfl); (case hr => first | (go_simp; done) | (go_simp; rfl)); intro ae hg w5 hbox hb; have ac := zA (hbox); have aH := zA ((by rw [hg]; exact (below_size (zqG HB.out ao.out)) : w.heap.size ≤ ae)); have az := zA ((by rw [hg]; exact (below_size (zqG HB.out ao.out)) : w.heap.size ≤ ae)); replace HB := zA (below_step (zqG HB.out ao.out) hb); have aA := zA ((by rw [hg]; exact Nat.ne_of_lt (blk_lt (g := ab) (o := .cells #[.slice ai af.length aj, .slice ak ag.length al, .slice am ad.length an] 28 (0, 0)) (zqB aa.out)) : ab ≠ ae)); have aB := zA ((by rw [hg]; exact Nat.ne_of_gt (blk_lt (g := ab) (o := .cells #[.slice ai af.length aj, .slice ak ag.length al, .slice am ad.length an] 28 (0, 0)) (zqB aa.out)) : ae ≠ ab)); replace aa := zA (blk_below (g := ab) (o := .cells #[.slice ai af.length aj, .slice ak ag.length al, .slice am ad.length an] 28 (0, 0)) (zqB aa.out) hb); clear hb hbox hg; have a0 := aA.out; have a1 := aB.out; have a2 : w5.cell? ⟨ab, 0, none⟩ = some (.slice ai af.length aj) := (blk_cell aa.out 0).trans rfl; have a3 : w5.cell? ⟨ab, 1, none⟩ = some (.slice ak ag.length al) := (blk_cell aa.out 1).trans rfl; have a4 : w5.cell? ⟨ab, 2, none⟩ = some (.slice am ad.length an) := (blk_cell aa.out 2).trans rfl; have a5 := blk_frozen aa.out 0; have a6 := blk_frozen aa.out 1; have a7 := blk_frozen aa.out 2; have a8 : w5.cell? ⟨ae, 0, none⟩ = some (.slice ar ap.length au) := (blk_cell ac.out 0).trans rfl; have a9 : w5.cell? ⟨ae, 1, none⟩ = some (.slice av aq.length aw) := (blk_cell ac.out 1).trans rfl; have ba : w5.cell? ⟨ae, 2, none⟩ = some (.slice ax ah.length ay) := (blk_cell ac.out 2).trans rfl; have bb := blk_frozen ac.out 0; have bc := blk_frozen ac.out 1; have bd := blk_frozen ac.out 2))
  repeat (go_quiet (first | ((with_reducible refine gate_dst (N := 2) rfl ?_); refine box_event ?hg (N := 2) ?hd (cs := #[.slice ai af.length aj, .slice ak ag.length al, .slice am ad.length an]) (t := 28) ?hr ?_; (case hd => rfl); (case hg => rfl); (case hr => first | (go_simp; done) | (go_simp; rfl)); intro ab hg w4 hbox hb; have aa := zA (hbox); have aG := zA ((by rw [hg]; exact (below_size (zqA HB.out)) : w.heap.size ≤ ab)); have ao := zA ((by rw [hg]; exact (below_size (zqA HB.out)) : w.heap.size ≤ ab)); replace HB := zA (below_step (zqA HB.out) hb); clear hb hbox hg) | ((with_reducible refine gate_dst (N := 3) rfl ?_); refine box_event ?hg (N := 3) ?hd (cs := #[.slice ar ap.length au, .slice av aq.length aw, .slice ax ah.length ay]) (t := 28) ?hr ?_; (case hd => rfl); (case hg => rfl); (case hr => first | (go_simp; done) | (go_simp; rfl)); intro ae hg w5 hbox hb; have ac := zA (hbox); have aH := zA ((by rw [hg]; exact (below_size (zqG HB.out ao.out)) : w.heap.size ≤ ae)); have az := zA ((by rw [hg]; exact (below_size (zqG HB.out ao.out)) : w.heap.size ≤ ae)); replace HB := zA (below_step (zqG HB.out ao.out) hb); have aA := zA ((by rw [hg]; exact Nat.ne_of_lt (blk_lt (g := ab) (o := .cells #[.slice ai af.length aj, .slice ak ag.length al, .slice am ad.length an] 28 (0, 0)) (zqB aa.out)) : ab ≠ ae)); have aB := zA ((by rw [hg]; exact Nat.ne_of_gt (blk_lt (g := ab) (o := .cells #[.slice ai af.length aj, .slice ak ag.length al, .slice am ad.length an] 28 (0, 0)) (zqB aa.out)) : ae ≠ ab)); replace aa := zA (blk_below (g := ab) (o := .cells #[.slice ai af.length aj, .slice ak ag.length al, .slice am ad.length an] 28 (0, 0)) (zqB aa.out) hb); clear hb hbox hg; have a0 := aA.out; have a1 := aB.out; have a2 : w5.cell? ⟨ab, 0, none⟩ = some (.slice ai af.length aj) := (blk_cell aa.out 0).trans rfl; have a3 : w5.cell? ⟨ab, 1, none⟩ = some (.slice ak ag.length al) := (blk_cell aa.out 1).trans rfl; have a4 : w5.cell? ⟨ab, 2, none⟩ = some (.slice am ad.length an) := (blk_cell aa.out 2).trans rfl; have a5 := blk_frozen aa.out 0; have a6 := blk_frozen aa.out 1; have a7 := blk_frozen aa.out 2; have a8 : w5.cell? ⟨ae, 0, none⟩ = some (.slice ar ap.length au) := (blk_cell ac.out 0).trans rfl; have a9 : w5.cell? ⟨ae, 1, none⟩ = some (.slice av aq.length aw) := (blk_cell ac.out 1).trans rfl; have ba : w5.cell? ⟨ae, 2, none⟩ = some (.slice ax ah.length ay) := (blk_cell ac.out 2).trans rfl; have bb := blk_frozen ac.out 0; have bc := blk_frozen ac.out 1; have bd := blk_frozen ac.out 2)); try go_wp2_with (first | ((with_reducible refine gate_dst (N := 2) rfl ?_); refine box_event ?hg (N := 2) ?hd (cs := #[.slice ai af.length aj, .slice ak ag.length al, .slice am ad.length an]) (t := 28) ?hr ?_; (case hd => rfl); (case hg => rfl); (case hr => first | (go_simp; done) | (go_simp; rfl)); intro ab hg w4 hbox hb; have aa := zA (hbox); have aG := zA ((by rw [hg]; exact (below_size (zqA HB.out)) : w.heap.size ≤ ab)); have ao := zA ((by rw [hg]; exact (below_size (zqA HB.out)) : w.heap.size ≤ ab)); replace HB := zA (below_step (zqA HB.out) hb); clear hb hbox hg) | ((with_reducible refine gate_dst (N := 3) rfl ?_); refine box_event ?hg (N := 3) ?hd (cs := #[.slice ar ap.length au, .slice av aq.length aw, .slice ax ah.length ay]) (t := 28) ?hr ?_; (case hd => rfl); (case hg => rfl); (case hr => first | (go_simp; done) | (go_simp; rfl)); intro ae hg w5 hbox hb; have ac := zA (hbox); have aH := zA ((by rw [hg]; exact (below_size (zqG HB.out ao.out)) : w.heap.size ≤ ae)); have az := zA ((by rw [hg]; exact (below_size (zqG HB.out ao.out)) : w.heap.size ≤ ae)); replace HB := zA (below_step (zqG HB.out ao.out) hb); have aA := zA ((by rw [hg]; exact Nat.ne_of_lt (blk_lt (g := ab) (o := .cells #[.slice ai af.length aj, .slice ak ag.length al, .slice am ad.length an] 28 (0, 0)) (zqB aa.out)) : ab ≠ ae)); have aB := zA ((by rw [hg]; exact Nat.ne_of_gt (blk_lt (g := ab) (o := .cells #[.slice ai af.length aj, .slice ak ag.length al, .slice am ad.length an] 28 (0, 0)) (zqB aa.out)) : ae ≠ ab)); replace aa := zA (blk_below (g := ab) (o := .cells #[.slice ai af.length aj, .slice ak ag.length al, .slice am ad.length an] 28 (0, 0)) (zqB aa.out) hb); clear hb hbox hg; have a0 := aA.out; have a1 := aB.out; have a2 : w5.cell? ⟨ab, 0, none⟩ = some (.slice ai af.length aj) := (blk_cell aa.out 0).trans rfl; have a3 : w5.cell? ⟨ab, 1, none⟩ = some (.slice ak ag.length al) := (blk_cell aa.out 1).trans rfl; have a4 : w5.cell? ⟨ab, 2, none⟩ = some (.slice am ad.length an) := (blk_cell aa.out 2).trans rfl; have a5 := blk_frozen aa.out 0; have a6 := blk_frozen aa.out 1; have a7 := blk_frozen aa.out 2; have a8 : w5.cell? ⟨ae, 0, none⟩ = some (.slice ar ap.length au) := (blk_cell ac.out 0).trans rfl; have a9 : w5.cell? ⟨ae, 1, none⟩ = some (.slice av aq.length aw) := (blk_cell ac.out 1).trans rfl; have ba : w5.cell? ⟨ae, 2, none⟩ = some (.slice ax ah.length ay) := (blk_cell ac.out 2).trans rfl; have bb := blk_frozen ac.out 0; have bc := blk_frozen ac.out 1; have bd := blk_frozen ac.out 2)))
  go_loopg [5] k (fun kq v5 w' => ∃ (x5_1 : Int), v5 = .int .i64 x5_1 ∧ Aside0 (pianolalaw02_same.l0 kq x5_1 af ag ad ap aq ah = some r) ∧ Aside0 (kq ≤ k) ∧ Aside0 (w'.heap[ab]? = some (.cells #[(.slice ai af.length aj), (.slice ak ag.length al), (.slice am ad.length an)] 28 (0, 0))) ∧ Aside0 (w'.heap[ae]? = some (.cells #[(.slice ar ap.length au), (.slice av aq.length aw), (.slice ax ah.length ay)] 28 (0, 0))) ∧ Aside0 (Below w.heap.size w w'))
  case atStart => exact ⟨(0), zqQ, H', ⟨Nat.le_refl _⟩, ⟨zqB aa.out⟩, ⟨zqB ac.out⟩, ⟨zqH HB.out ao.out az.out⟩⟩
  case round =>
   clear H'
   obtain ⟨x5_1, rfl, HA, HK1, aa, ac, HB⟩ := hrel
   cases gk with
   | zero => exact absurd HA.out (by simp [pianolalaw02_same.l0])
   | succ k1 =>
    have H := HA.out
    clear HA
    simp only [pianolalaw02_same.l0] at H
    by_cases c9 : x5_1 < (ad.length : Int)
    ·
     rw [if_pos c9] at H
     have c9b0 : decide (x5_1 < (ad.length : Int)) = true := decide_eq_true c9
     clear c9
     by_cases c10 : 0 ≤ x5_1
     ·
      rw [if_pos c10] at H
      have c10b0 : decide (0 ≤ x5_1) = true := decide_eq_true c10
      clear c10
      by_cases c11 : x5_1 < (ah.length : Int)
      ·
       rw [if_pos c11] at H
       have c11b0 : decide (x5_1 < (ah.length : Int)) = true := decide_eq_true c11
       clear c11
       by_cases c12 : (!(((rd_T67 ad x5_1).f0) == ((rd_T67 ah x5_1).f0)) || (!(((rd_T67 ad x5_1).f1) == ((rd_T67 ah x5_1).f1)))) = true
       ·
        rw [if_pos c12] at H
        have c12b0 : (!(((rd_T67 ad x5_1).f0) == ((rd_T67 ah x5_1).f0)) || (!(((rd_T67 ad x5_1).f1) == ((rd_T67 ah x5_1).f1)))) = true := c12
        clear c12
        obtain rfl := Option.some.inj H
        have hnb13 := aA.out
        have hnc13 := aB.out
        have hcz14_0 : wr.cell? ⟨ab, 0, none⟩ = some (.slice ai af.length aj) := (blk_cell aa.out 0).trans rfl
        have hcz14_1 : wr.cell? ⟨ab, 1, none⟩ = some (.slice ak ag.length al) := (blk_cell aa.out 1).trans rfl
        have hcz14_2 : wr.cell? ⟨ab, 2, none⟩ = some (.slice am ad.length an) := (blk_cell aa.out 2).trans rfl
        have hfz14_0 := blk_frozen aa.out 0
        have hfz14_1 := blk_frozen aa.out 1
        have hfz14_2 := blk_frozen aa.out 2
        have p303 : 0 ≤ (x5_1 : Int) := of_decide_eq_true (zqD)
        have q303 : x5_1 < (ad.length : Int) := of_decide_eq_true (zqD)
        obtain ⟨ad303, e303, hx303_0, hx303_1⟩ := at_T67 aY.out x5_1 p303 q303
        cases e303
        replace hx303_0 := (HB.out.cell (World.block_lt_of_cell? w _ hx303_0)).trans hx303_0
        replace hx303_1 := (HB.out.cell (World.block_lt_of_cell? w _ hx303_1)).trans hx303_1
        replace p303 := eq_true p303; replace q303 := eq_true q303
        have hcz15_0 : wr.cell? ⟨ae, 0, none⟩ = some (.slice ar ap.length au) := (blk_cell ac.out 0).trans rfl
        have hcz15_1 : wr.cell? ⟨ae, 1, none⟩ = some (.slice av aq.length aw) := (blk_cell ac.out 1).trans rfl
        have hcz15_2 : wr.cell? ⟨ae, 2, none⟩ = some (.slice ax ah.length ay) := (blk_cell ac.out 2).trans rfl
        have hfz15_0 := blk_frozen ac.out 0
        have hfz15_1 := blk_frozen ac.out 1
        have hfz15_2 := blk_frozen ac.out 2
        have p304 : 0 ≤ (x5_1 : Int) := of_decide_eq_true (zqD)
        have q304 : x5_1 < (ah.length : Int) := of_decide_eq_true (zqD)
        obtain ⟨ad304, e304, hx304_0, hx304_1⟩ := at_T67 aZ.out x5_1 p304 q304
        cases e304
        replace hx304_0 := (HB.out.cell (World.block_lt_of_cell? w _ hx304_0)).trans hx304_0
        replace hx304_1 := (HB.out.cell (World.block_lt_of_cell? w _ hx304_1)).trans hx304_1
        replace p304 := eq_true p304; replace q304 := eq_true q304
        go_wp2
        repeat (go_quiet (fail); try go_wp2)
        go_ret
        exact ⟨zqR, zqH HB.out ao.out az.out⟩
       ·
        rw [if_neg c12] at H
        have c12b0 : (!(((rd_T67 ad x5_1).f0) == ((rd_T67 ah x5_1).f0)) || (!(((rd_T67 ad x5_1).f1) == ((rd_T67 ah x5_1).f1)))) = false := by simpa using c12
        clear c12
        have H' := zA H
        clear H
        have hnb16 := aA.out
        have hnc16 := aB.out
        have hcz17_0 : wr.cell? ⟨ab, 0, none⟩ = some (.slice ai af.length aj) := (blk_cell aa.out 0).trans rfl
        have hcz17_1 : wr.cell? ⟨ab, 1, none⟩ = some (.slice ak ag.length al) := (blk_cell aa.out 1).trans rfl
        have hcz17_2 : wr.cell? ⟨ab, 2, none⟩ = some (.slice am ad.length an) := (blk_cell aa.out 2).trans rfl
        have hfz17_0 := blk_frozen aa.out 0
        have hfz17_1 := blk_frozen aa.out 1
        have hfz17_2 := blk_frozen aa.out 2
        have p303 : 0 ≤ (x5_1 : Int) := of_decide_eq_true (zqD)
        have q303 : x5_1 < (ad.length : Int) := of_decide_eq_true (zqD)
        obtain ⟨ad303, e303, hx303_0, hx303_1⟩ := at_T67 aY.out x5_1 p303 q303
        cases e303
        replace hx303_0 := (HB.out.cell (World.block_lt_of_cell? w _ hx303_0)).trans hx303_0
        replace hx303_1 := (HB.out.cell (World.block_lt_of_cell? w _ hx303_1)).trans hx303_1
        replace p303 := eq_true p303; replace q303 := eq_true q303
        have hcz18_0 : wr.cell? ⟨ae, 0, none⟩ = some (.slice ar ap.length au) := (blk_cell ac.out 0).trans rfl
        have hcz18_1 : wr.cell? ⟨ae, 1, none⟩ = some (.slice av aq.length aw) := (blk_cell ac.out 1).trans rfl
        have hcz18_2 : wr.cell? ⟨ae, 2, none⟩ = some (.slice ax ah.length ay) := (blk_cell ac.out 2).trans rfl
        have hfz18_0 := blk_frozen ac.out 0
        have hfz18_1 := blk_frozen ac.out 1
        have hfz18_2 := blk_frozen ac.out 2
        have p304 : 0 ≤ (x5_1 : Int) := of_decide_eq_true (zqD)
        have q304 : x5_1 < (ah.length : Int) := of_decide_eq_true (zqD)
        obtain ⟨ad304, e304, hx304_0, hx304_1⟩ := at_T67 aZ.out x5_1 p304 q304
        cases e304
        replace hx304_0 := (HB.out.cell (World.block_lt_of_cell? w _ hx304_0)).trans hx304_0
        replace hx304_1 := (HB.out.cell (World.block_lt_of_cell? w _ hx304_1)).trans hx304_1
        replace p304 := eq_true p304; replace q304 := eq_true q304
        go_wp2
        repeat (go_quiet (fail); try go_wp2)
        go_roundg k1
        case measure => have := HK1.out; omega
        case rel => exact ⟨(wrap64 (x5_1 + 1)), zqQ, H', ⟨by have := HK1.out; omega⟩, ⟨zqB aa.out⟩, ⟨zqB ac.out⟩, ⟨zqH HB.out ao.out az.out⟩⟩
      ·
       rw [if_neg c11] at H
       exact absurd H (by simp)
     ·
      rw [if_neg c10] at H
      exact absurd H (by simp)
    ·
     rw [if_neg c9] at H
     have c9b0 : decide (x5_1 < (ad.length : Int)) = false := decide_eq_false c9
     clear c9
     replace H := Option.bind_eq_some_iff.mp H
     obtain ⟨t305, A190, H⟩ := H
     replace H : (if t305 = true then ((pianolalaw02_rolls.f k1 ag aq).bind fun t306 => (some t306)) else (some false)) = some r := H
     have A19 := zA A190
     clear A190
     by_cases c20 : t305 = true
     ·
      subst c20
      have H1 : ((pianolalaw02_rolls.f k1 ag aq).bind fun t306 => (some t306)) = some r := by rw [if_pos rfl] at H; exact H
      clear H; have H := H1; clear H1
      replace H := Option.bind_eq_some_iff.mp H
      obtain ⟨t306, A210, H⟩ := H
      replace H : (some t306) = some r := H
      have A21 := zA A210
      clear A210
      obtain rfl := Option.some.inj H
      have hnb22 := aA.out
      have hnc22 := aB.out
      have hcz23_0 : wr.cell? ⟨ab, 0, none⟩ = some (.slice ai af.length aj) := (blk_cell aa.out 0).trans rfl
      have hcz23_1 : wr.cell? ⟨ab, 1, none⟩ = some (.slice ak ag.length al) := (blk_cell aa.out 1).trans rfl
      have hcz23_2 : wr.cell? ⟨ab, 2, none⟩ = some (.slice am ad.length an) := (blk_cell aa.out 2).trans rfl
      have hfz23_0 := blk_frozen aa.out 0
      have hfz23_1 := blk_frozen aa.out 1
      have hfz23_2 := blk_frozen aa.out 2
      have hcz24_0 : wr.cell? ⟨ae, 0, none⟩ = some (.slice ar ap.length au) := (blk_cell ac.out 0).trans rfl
      have hcz24_1 : wr.cell? ⟨ae, 1, none⟩ = some (.slice av aq.length aw) := (blk_cell ac.out 1).trans rfl
      have hcz24_2 : wr.cell? ⟨ae, 2, none⟩ = some (.slice ax ah.length ay) := (blk_cell ac.out 2).trans rfl
      have hfz24_0 := blk_frozen ac.out 0
      have hfz24_1 := blk_frozen ac.out 1
      have hfz24_2 := blk_frozen ac.out 2
      go_wp2_with (first | (go_at_call 36; (with_reducible refine (pianolalaw02_rolls.calls k1 _ _ af _ _ ap true _ ?side1 ?side2 ?side3 ?side4 A19.out).mono ?_); (case side1 => exact zqK (Kd.C_below aC.out HB.out)); (case side2 => exact aD.out); (case side3 => exact zqK (Kd.C_below aE.out HB.out)); (case side4 => exact aF.out); rintro e w' ⟨rfl, ⟨nd, rfl⟩⟩; (try first | exact ⟨rfl, _, World.drewN_drewN _ _ _⟩ | exact ⟨rfl, _, Eq.trans (World.drewN_drewN _ _ _) (congrArg (World.drewN _) (Nat.add_assoc _ _ _))⟩)) | (go_at_call 36; (with_reducible refine (pianolalaw02_rolls.calls k1 _ _ ag _ _ aq t306 _ ?side1 ?side2 ?side3 ?side4 A21.out).mono ?_); (case side1 => repeat (first | exact (Kd.C_below aI.out (zqH HB.out ao.out az.out)) | (with_reducible refine Kd.C_alloc ?_ _) | (with_reducible refine Kd.C_drewN ?_ _) | (with_reducible refine Kd.C_drew ?_))); (case side2 => exact aJ.out); (case side3 => repeat (first | exact (Kd.C_below aK.out (zqH HB.out ao.out az.out)) | (with_reducible refine Kd.C_alloc ?_ _) | (with_reducible refine Kd.C_drewN ?_ _) | (with_reducible refine Kd.C_drew ?_))); (case side4 => exact aL.out); rintro e w' ⟨rfl, ⟨nd, rfl⟩⟩; (try first | exact ⟨rfl, _, World.drewN_drewN _ _ _⟩ | exact ⟨rfl, _, Eq.trans (World.drewN_drewN _ _ _) (congrArg (World.drewN _) (Nat.add_assoc _ _ _))⟩)))
      repeat (go_quiet (first | (go_at_call 36; (with_reducible refine (pianolalaw02_rolls.calls k1 _ _ af _ _ ap true _ ?side1 ?side2 ?side3 ?side4 A19.out).mono ?_); (case side1 => exact zqK (Kd.C_below aC.out HB.out)); (case side2 => exact aD.out); (case side3 => exact zqK (Kd.C_below aE.out HB.out)); (case side4 => exact aF.out); rintro e w' ⟨rfl, ⟨nd, rfl⟩⟩; (try first | exact ⟨rfl, _, World.drewN_drewN _ _ _⟩ | exact ⟨rfl, _, Eq.trans (World.drewN_drewN _ _ _) (congrArg (World.drewN _) (Nat.add_assoc _ _ _))⟩)) | (go_at_call 36; (with_reducible refine (pianolalaw02_rolls.calls k1 _ _ ag _ _ aq t306 _ ?side1 ?side2 ?side3 ?side4 A21.out).mono ?_); (case side1 => repeat (first | exact (Kd.C_below aI.out (zqH HB.out ao.out az.out)) | (with_reducible refine Kd.C_alloc ?_ _) | (with_reducible refine Kd.C_drewN ?_ _) | (with_reducible refine Kd.C_drew ?_))); (case side2 => exact aJ.out); (case side3 => repeat (first | exact (Kd.C_below aK.out (zqH HB.out ao.out az.out)) | (with_reducible refine Kd.C_alloc ?_ _) | (with_reducible refine Kd.C_drewN ?_ _) | (with_reducible refine Kd.C_drew ?_))); (case side4 => exact aL.out); rintro e w' ⟨rfl, ⟨nd, rfl⟩⟩; (try first | exact ⟨rfl, _, World.drewN_drewN _ _ _⟩ | exact ⟨rfl, _, Eq.trans (World.drewN_drewN _ _ _) (congrArg (World.drewN _) (Nat.add_assoc _ _ _))⟩))); try go_wp2_with (first | (go_at_call 36; (with_reducible refine (pianolalaw02_rolls.calls k1 _ _ af _ _ ap true _ ?side1 ?side2 ?side3 ?side4 A19.out).mono ?_); (case side1 => exact zqK (Kd.C_below aC.out HB.out)); (case side2 => exact aD.out); (case side3 => exact zqK (Kd.C_below aE.out HB.out)); (case side4 => exact aF.out); rintro e w' ⟨rfl, ⟨nd, rfl⟩⟩; (try first | exact ⟨rfl, _, World.drewN_drewN _ _ _⟩ | exact ⟨rfl, _, Eq.trans (World.drewN_drewN _ _ _) (congrArg (World.drewN _) (Nat.add_assoc _ _ _))⟩)) | (go_at_call 36; (with_reducible refine (pianolalaw02_rolls.calls k1 _ _ ag _ _ aq t306 _ ?side1 ?side2 ?side3 ?side4 A21.out).mono ?_); (case side1 => repeat (first | exact (Kd.C_below aI.out (zqH HB.out ao.out az.out)) | (with_reducible refine Kd.C_alloc ?_ _) | (with_reducible refine Kd.C_drewN ?_ _) | (with_reducible refine Kd.C_drew ?_))); (case side2 => exact aJ.out); (case side3 => repeat (first | exact (Kd.C_below aK.out (zqH HB.out ao.out az.out)) | (with_reducible refine Kd.C_alloc ?_ _) | (with_reducible refine Kd.C_drewN ?_ _) | (with_reducible refine Kd.C_drew ?_))); (case side4 => exact aL.out); rintro e w' ⟨rfl, ⟨nd, rfl⟩⟩; (try first | exact ⟨rfl, _, World.drewN_drewN _ _ _⟩ | exact ⟨rfl, _, Eq.trans (World.drewN_drewN _ _ _) (congrArg (World.drewN _) (Nat.add_assoc _ _ _))⟩))))
      go_ret
      exact ⟨zqR, zqH HB.out ao.out az.out⟩
     ·
      replace c20 := Bool.eq_false_iff.mpr c20
      subst c20
      have H1 : (some false) = some r := by rw [if_neg (show ¬ (false = true) by decide)] at H; exact H
      clear H; have H := H1; clear H1
      obtain rfl := Option.some.inj H
      have hnb25 := aA.out
      have hnc25 := aB.out
      have hcz26_0 : wr.cell? ⟨ab, 0, none⟩ = some (.slice ai af.length aj) := (blk_cell aa.out 0).trans rfl
      have hcz26_1 : wr.cell? ⟨ab, 1, none⟩ = some (.slice ak ag.length al) := (blk_cell aa.out 1).trans rfl
      have hcz26_2 : wr.cell? ⟨ab, 2, none⟩ = some (.slice am ad.length an) := (blk_cell aa.out 2).trans rfl
      have hfz26_0 := blk_frozen aa.out 0
      have hfz26_1 := blk_frozen aa.out 1
      have hfz26_2 := blk_frozen aa.out 2
      have hcz27_0 : wr.cell? ⟨ae, 0, none⟩ = some (.slice ar ap.length au) := (blk_cell ac.out 0).trans rfl
      have hcz27_1 : wr.cell? ⟨ae, 1, none⟩ = some (.slice av aq.length aw) := (blk_cell ac.out 1).trans rfl
      have hcz27_2 : wr.cell? ⟨ae, 2, none⟩ = some (.slice ax ah.length ay) := (blk_cell ac.out 2).trans rfl
      have hfz27_0 := blk_frozen ac.out 0
      have hfz27_1 := blk_frozen ac.out 1
      have hfz27_2 := blk_frozen ac.out 2
      go_wp2_with (first | (go_at_call 36; (with_reducible refine (pianolalaw02_rolls.calls k1 _ _ af _ _ ap false _ ?side1 ?side2 ?side3 ?side4 A19.out).mono ?_); (case side1 => exact zqK (Kd.C_below aC.out HB.out)); (case side2 => exact aD.out); (case side3 => exact zqK (Kd.C_below aE.out HB.out)); (case side4 => exact aF.out); rintro e w' ⟨rfl, ⟨nd, rfl⟩⟩; (try first | exact ⟨rfl, _, World.drewN_drewN _ _ _⟩ | exact ⟨rfl, _, Eq.trans (World.drewN_drewN _ _ _) (congrArg (World.drewN _) (Nat.add_assoc _ _ _))⟩)))
      repeat (go_quiet (first | (go_at_call 36; (with_reducible refine (pianolalaw02_rolls.calls k1 _ _ af _ _ ap false _ ?side1 ?side2 ?side3 ?side4 A19.out).mono ?_); (case side1 => exact zqK (Kd.C_below aC.out HB.out)); (case side2 => exact aD.out); (case side3 => exact zqK (Kd.C_below aE.out HB.out)); (case side4 => exact aF.out); rintro e w' ⟨rfl, ⟨nd, rfl⟩⟩; (try first | exact ⟨rfl, _, World.drewN_drewN _ _ _⟩ | exact ⟨rfl, _, Eq.trans (World.drewN_drewN _ _ _) (congrArg (World.drewN _) (Nat.add_assoc _ _ _))⟩))); try go_wp2_with (first | (go_at_call 36; (with_reducible refine (pianolalaw02_rolls.calls k1 _ _ af _ _ ap false _ ?side1 ?side2 ?side3 ?side4 A19.out).mono ?_); (case side1 => exact zqK (Kd.C_below aC.out HB.out)); (case side2 => exact aD.out); (case side3 => exact zqK (Kd.C_below aE.out HB.out)); (case side4 => exact aF.out); rintro e w' ⟨rfl, ⟨nd, rfl⟩⟩; (try first | exact ⟨rfl, _, World.drewN_drewN _ _ _⟩ | exact ⟨rfl, _, Eq.trans (World.drewN_drewN _ _ _) (congrArg (World.drewN _) (Nat.add_assoc _ _ _))⟩))))
      go_ret
      exact ⟨zqR, zqH HB.out ao.out az.out⟩
 ·
  rw [if_neg c3] at H
  have c3b0 : ((ad.length : Int) == (ah.length : Int)) = false := beq_eq_false_iff_ne.mpr c3
  have c3b1 : ((ad.length : Int) != (ah.length : Int)) = true := bne_iff_ne.mpr c3
  have c3b2 : (ad.length == ah.length) = false := by first | simpa using c3 | (simp at c3 ⊢; omega)
  obtain rfl := Option.some.inj H
  go_enter Try.func25, Try.ntmps25
  go_wp2_with (first | ((with_reducible refine gate_dst (N := 2) rfl ?_); refine box_event ?hg (N := 2) ?hd (cs := #[.slice ai af.length aj, .slice ak ag.length al, .slice am ad.length an]) (t := 28) ?hr ?_; (case hd => rfl); (case hg => rfl); (case hr => first | (go_simp; done) | (go_simp; rfl)); intro ab hg w28 hbox hb; have aa := zA (hbox); have aG := zA ((by rw [hg]; exact (below_size (zqA HB.out)) : w.heap.size ≤ ab)); have ao := zA ((by rw [hg]; exact (below_size (zqA HB.out)) : w.heap.size ≤ ab)); replace HB := zA (below_step (zqA HB.out) hb); clear hb hbox hg) | ((with_reducible refine gate_dst (N := 3) rfl ?_); refine box_event ?hg (N := 3) ?hd (cs := #[.slice ar ap.length au, .slice av aq.length aw, .slice ax ah.length ay]) (t := 28) ?hr ?_; (case hd => rfl); (case hg => rfl); (case hr => first | (go_simp; done) | (go_simp; rfl)); intro ae hg w29 hbox hb; have ac := zA (hbox); have aH := zA ((by rw [hg]; exact (below_size (zqG HB.out ao.out)) : w.heap.size ≤ ae)); have az := zA ((by rw [hg]; exact (below_size (zqG HB.out ao.out)) : w.heap.size ≤ ae)); replace HB := zA (below_step (zqG HB.out ao.out) hb); have aA := zA ((by rw [hg]; exact Nat.ne_of_lt (blk_lt (g := ab) (o := .cells #[.slice ai af.length aj, .slice ak ag.length al, .slice am ad.length an] 28 (0, 0)) (zqB aa.out)) : ab ≠ ae)); have aB := zA ((by rw [hg]; exact Nat.ne_of_gt (blk_lt (g := ab) (o := .cells #[.slice ai af.length aj, .slice ak ag.length al, .slice am ad.length an] 28 (0, 0)) (zqB aa.out)) : ae ≠ ab)); replace aa := zA (blk_below (g := ab) (o := .cells #[.slice ai af.length aj, .slice ak ag.length al, .slice am ad.length an] 28 (0, 0)) (zqB aa.out) hb); clear hb hbox hg; have be := aA.out; have bf := aB.out; have bg : w29.cell? ⟨ab, 0, none⟩ = some (.slice ai af.length aj) := (blk_cell aa.out 0).trans rfl; have bh : w29.cell? ⟨ab, 1, none⟩ = some (.slice ak ag.length al) := (blk_cell aa.out 1).trans rfl; have bi : w29.cell? ⟨ab, 2, none⟩ = some (.slice am ad.length an) := (blk_cell aa.out 2).trans rfl; have bj := blk_frozen aa.out 0; have bk := blk_frozen aa.out 1; have bl := blk_frozen aa.out 2; have bm : w29.cell? ⟨ae, 0, none⟩ = some (.slice ar ap.length au) := (blk_cell ac.out 0).trans rfl; have bn : w29.cell? ⟨ae, 1, none⟩ = some (.slice av aq.length aw) := (blk_cell ac.out 1).trans rfl; have bo : w29.cell? ⟨ae, 2, none⟩ = some (.slice ax ah.length ay) := (blk_cell ac.out 2).trans rfl; have bp := blk_frozen ac.out 0; have bq := blk_frozen ac.out 1; have br := blk_frozen ac.out 2))
  repeat (go_quiet (first | ((with_reducible refine gate_dst (N := 2) rfl ?_); refine box_event ?hg (N := 2) ?hd (cs := #[.slice ai af.length aj, .slice ak ag.length al, .slice am ad.length an]) (t := 28) ?hr ?_; (case hd => rfl); (case hg => rfl); (case hr => first | (go_simp; done) | (go_simp; rfl)); intro ab hg w28 hbox hb; have aa := zA (hbox); have aG := zA ((by rw [hg]; exact (below_size (zqA HB.out)) : w.heap.size ≤ ab)); have ao := zA ((by rw [hg]; exact (below_size (zqA HB.out)) : w.heap.size ≤ ab)); replace HB := zA (below_step (zqA HB.out) hb); clear hb hbox hg) | ((with_reducible refine gate_dst (N := 3) rfl ?_); refine box_event ?hg (N := 3) ?hd (cs := #[.slice ar ap.length au, .slice av aq.length aw, .slice ax ah.length ay]) (t := 28) ?hr ?_; (case hd => rfl); (case hg => rfl); (case hr => first | (go_simp; done) | (go_simp; rfl)); intro ae hg w29 hbox hb; have ac := zA (hbox); have aH := zA ((by rw [hg]; exact (below_size (zqG HB.out ao.out)) : w.heap.size ≤ ae)); have az := zA ((by rw [hg]; exact (below_size (zqG HB.out ao.out)) : w.heap.size ≤ ae)); replace HB := zA (below_step (zqG HB.out ao.out) hb); have aA := zA ((by rw [hg]; exact Nat.ne_of_lt (blk_lt (g := ab) (o := .cells #[.slice ai af.length aj, .slice ak ag.length al, .slice am ad.length an] 28 (0, 0)) (zqB aa.out)) : ab ≠ ae)); have aB := zA ((by rw [hg]; exact Nat.ne_of_gt (blk_lt (g := ab) (o := .cells #[.slice ai af.length aj, .slice ak ag.length al, .slice am ad.length an] 28 (0, 0)) (zqB aa.out)) : ae ≠ ab)); replace aa := zA (blk_below (g := ab) (o := .cells #[.slice ai af.length aj, .slice ak ag.length al, .slice am ad.length an] 28 (0, 0)) (zqB aa.out) hb); clear hb hbox hg; have be := aA.out; have bf := aB.out; have bg : w29.cell? ⟨ab, 0, none⟩ = some (.slice ai af.length aj) := (blk_cell aa.out 0).trans rfl; have bh : w29.cell? ⟨ab, 1, none⟩ = some (.slice ak ag.length al) := (blk_cell aa.out 1).trans rfl; have bi : w29.cell? ⟨ab, 2, none⟩ = some (.slice am ad.length an) := (blk_cell aa.out 2).trans rfl; have bj := blk_frozen aa.out 0; have bk := blk_frozen aa.out 1; have bl := blk_frozen aa.out 2; have bm : w29.cell? ⟨ae, 0, none⟩ = some (.slice ar ap.length au) := (blk_cell ac.out 0).trans rfl; have bn : w29.cell? ⟨ae, 1, none⟩ = some (.slice av aq.length aw) := (blk_cell ac.out 1).trans rfl; have bo : w29.cell? ⟨ae, 2, none⟩ = some (.slice ax ah.length ay) := (blk_cell ac.out 2).trans rfl; have bp := blk_frozen ac.out 0; have bq := blk_frozen ac.out 1; have br := blk_frozen ac.out 2)); try go_wp2_with (first | ((with_reducible refine gate_dst (N := 2) rfl ?_); refine box_event ?hg (N := 2) ?hd (cs := #[.slice ai af.length aj, .slice ak ag.length al, .slice am ad.length an]) (t := 28) ?hr ?_; (case hd => rfl); (case hg => rfl); (case hr => first | (go_simp; done) | (go_simp; rfl)); intro ab hg w28 hbox hb; have aa := zA (hbox); have aG := zA ((by rw [hg]; exact (below_size (zqA HB.out)) : w.heap.size ≤ ab)); have ao := zA ((by rw [hg]; exact (below_size (zqA HB.out)) : w.heap.size ≤ ab)); replace HB := zA (below_step (zqA HB.out) hb); clear hb hbox hg) | ((with_reducible refine gate_dst (N := 3) rfl ?_); refine box_event ?hg (N := 3) ?hd (cs := #[.slice ar ap.length au, .slice av aq.length aw, .slice ax ah.length ay]) (t := 28) ?hr ?_; (case hd => rfl); (case hg => rfl); (case hr => first | (go_simp; done) | (go_simp; rfl)); intro ae hg w29 hbox hb; have ac := zA (hbox); have aH := zA ((by rw [hg]; exact (below_size (zqG HB.out ao.out)) : w.heap.size ≤ ae)); have az := zA ((by rw [hg]; exact (below_size (zqG HB.out ao.out)) : w.heap.size ≤ ae)); replace HB := zA (below_step (zqG HB.out ao.out) hb); have aA := zA ((by rw [hg]; exact Nat.ne_of_lt (blk_lt (g := ab) (o := .cells #[.slice ai af.length aj, .slice ak ag.length al, .slice am ad.length an] 28 (0, 0)) (zqB aa.out)) : ab ≠ ae)); have aB := zA ((by rw [hg]; exact Nat.ne_of_gt (blk_lt (g := ab) (o := .cells #[.slice ai af.length aj, .slice ak ag.length al, .slice am ad.length an] 28 (0, 0)) (zqB aa.out)) : ae ≠ ab)); replace aa := zA (blk_below (g := ab) (o := .cells #[.slice ai af.length aj, .slice ak ag.length al, .slice am ad.length an] 28 (0, 0)) (zqB aa.out) hb); clear hb hbox hg; have be := aA.out; have bf := aB.out; have bg : w29.cell? ⟨ab, 0, none⟩ = some (.slice ai af.length aj) := (blk_cell aa.out 0).trans rfl; have bh : w29.cell? ⟨ab, 1, none⟩ = some (.slice ak ag.length al) := (blk_cell aa.out 1).trans rfl; have bi : w29.cell? ⟨ab, 2, none⟩ = some (.slice am ad.length an) := (blk_cell aa.out 2).trans rfl; have bj := blk_frozen aa.out 0; have bk := blk_frozen aa.out 1; have bl := blk_frozen aa.out 2; have bm : w29.cell? ⟨ae, 0, none⟩ = some (.slice ar ap.length au) := (blk_cell ac.out 0).trans rfl; have bn : w29.cell? ⟨ae, 1, none⟩ = some (.slice av aq.length aw) := (blk_cell ac.out 1).trans rfl; have bo : w29.cell? ⟨ae, 2, none⟩ = some (.slice ax ah.length ay) := (blk_cell ac.out 2).trans rfl; have bp := blk_frozen ac.out 0; have bq := blk_frozen ac.out 1; have br := blk_frozen ac.out 2)))
  go_ret
  exact ⟨zqR, zqH HB.out ao.out az.out⟩
def pianolalaw02_note.f (a0 : Int) (a1 : Int) (a2 : Int) : Option (Int × Int × Int) := some (a0, a1, a2)
set_option maxHeartbeats 8000000 in
set_option maxRecDepth 100000 in
theorem pianolalaw02_note.calls (a0 : Int) (a1 : Int) (a2 : Int) (r1 : Int) (r2 : Int) (r3 : Int) (w : World) (h : pianolalaw02_note.f a0 a1 a2 = some (r1, r2, r3)) :
  Calls Try.prog 27 #[.int .i64 a0, .int .i64 a1, .int .i64 a2] w fun e w' => e = .returned (.agg #[.int .i64 r1, .int .i64 r2, .int .i64 r3]) ∧ Below w.heap.size w w' := by
 have hu61 := Try.underlying61
 have HB := zA (Below.refl w.heap.size w)
 have H : (some (a0, a1, a2)) = some (r1, r2, r3) := h
 clear h
 simp only [Option.some.injEq, Prod.mk.injEq] at H
 obtain ⟨rfl, rfl, rfl⟩ := H
 go_enter Try.func27, Try.ntmps27
 go_wp2_with (first | ((with_reducible refine gate_dst (N := 6) rfl ?_); refine box_event ?hg (N := 6) ?hd (cs := #[.int .i64 0, .int .i64 0, .int .i64 0]) (t := 61) ?hr ?_; (case hd => rfl); (case hg => rfl); (case hr => first | (go_simp; done) | (go_simp; rfl)); intro gb517 hg w4 hbox hb; have BK517 := zA (hbox); have GW517 := zA ((by rw [hg]; exact (below_size (zqA HB.out)) : w.heap.size ≤ gb517)); have GE517 := zA ((by rw [hg]; exact (below_size (zqA HB.out)) : w.heap.size ≤ gb517)); replace HB := zA (below_step (zqA HB.out) hb); clear hb hbox hg; have hcz5_0 : w4.cell? ⟨gb517, 0, none⟩ = some (.int .i64 0) := (blk_cell BK517.out 0).trans rfl; have hcz5_1 : w4.cell? ⟨gb517, 1, none⟩ = some (.int .i64 0) := (blk_cell BK517.out 1).trans rfl; have hcz5_2 : w4.cell? ⟨gb517, 2, none⟩ = some (.int .i64 0) := (blk_cell BK517.out 2).trans rfl; have hfz5_0 := blk_frozen BK517.out 0; have hfz5_1 := blk_frozen BK517.out 1; have hfz5_2 := blk_frozen BK517.out 2))
 refine bodyPost_ret (results_cell_row rfl _ _ gb517 61 #[.int .i64 a0, .int .i64 a1, .int .i64 a2] (0, 0) _ rfl (by (with_reducible repeat (first | refine blk_drewN ?_ _ | refine blk_drew ?_ | refine blk_alloc ?_ _)); refine blk_put (cs := #[.int .i64 a0, .int .i64 a1, .int .i64 0]) ?_ 2 _ rfl; (with_reducible repeat (first | refine blk_drewN ?_ _ | refine blk_drew ?_ | refine blk_alloc ?_ _)); refine blk_put (cs := #[.int .i64 a0, .int .i64 0, .int .i64 0]) ?_ 1 _ rfl; (with_reducible repeat (first | refine blk_drewN ?_ _ | refine blk_drew ?_ | refine blk_alloc ?_ _)); refine blk_put (cs := #[.int .i64 0, .int .i64 0, .int .i64 0]) ?_ 0 _ rfl; (with_reducible repeat (first | refine blk_drewN ?_ _ | refine blk_drew ?_ | refine blk_alloc ?_ _)); exact BK517.out) Try.underlying61 rfl (by kernel_rfl)) rfl ?_
 exact ⟨zqR, zqG HB.out GE517.out⟩
def pianolalaw02_R.f  : Option ((List (S61))) := (pianolalaw02_note.f 0 40 5).bind fun bt518 => ((pianolalaw02_note.f 10 42 5).bind fun bt521 => ((pianolalaw02_note.f 20 44 5).bind fun bt524 => (some (([(⟨bt518.1, bt518.2.1, bt518.2.2⟩ : S61), (⟨bt521.1, bt521.2.1, bt521.2.2⟩ : S61), (⟨bt524.1, bt524.2.1, bt524.2.2⟩ : S61)] : List (S61))))))
set_option maxHeartbeats 8000000 in
set_option maxRecDepth 100000 in
theorem pianolalaw02_R.calls  (r : List (S61)) (w : World) (h : pianolalaw02_R.f  = some r) :
  Calls Try.prog 26 #[] w fun e w' => ∃ v0_ : Value, e = .returned (v0_) ∧ Kd.R k61 61 w' w.heap.size (fun _ => True) v0_ r ∧ Below w.heap.size w w' := by
 have HB := zA (Below.refl w.heap.size w)
 have H : ((pianolalaw02_note.f 0 40 5).bind fun bt518 => ((pianolalaw02_note.f 10 42 5).bind fun bt521 => ((pianolalaw02_note.f 20 44 5).bind fun bt524 => (some (([(⟨bt518.1, bt518.2.1, bt518.2.2⟩ : S61), (⟨bt521.1, bt521.2.1, bt521.2.2⟩ : S61), (⟨bt524.1, bt524.2.1, bt524.2.2⟩ : S61)] : List (S61))))))) = some r := h
 clear h
 replace H := Option.bind_eq_some_iff.mp H
 obtain ⟨⟨t518, t519, t520⟩, A10, H⟩ := H
 replace H : ((pianolalaw02_note.f 10 42 5).bind fun bt521 => ((pianolalaw02_note.f 20 44 5).bind fun bt524 => (some (([(⟨t518, t519, t520⟩ : S61), (⟨bt521.1, bt521.2.1, bt521.2.2⟩ : S61), (⟨bt524.1, bt524.2.1, bt524.2.2⟩ : S61)] : List (S61)))))) = some r := H
 have A1 := zA A10
 clear A10
 replace H := Option.bind_eq_some_iff.mp H
 obtain ⟨⟨t521, t522, t523⟩, A20, H⟩ := H
 replace H : ((pianolalaw02_note.f 20 44 5).bind fun bt524 => (some (([(⟨t518, t519, t520⟩ : S61), (⟨t521, t522, t523⟩ : S61), (⟨bt524.1, bt524.2.1, bt524.2.2⟩ : S61)] : List (S61))))) = some r := H
 have A2 := zA A20
 clear A20
 replace H := Option.bind_eq_some_iff.mp H
 obtain ⟨⟨t524, t525, t526⟩, A30, H⟩ := H
 replace H : (some (([(⟨t518, t519, t520⟩ : S61), (⟨t521, t522, t523⟩ : S61), (⟨t524, t525, t526⟩ : S61)] : List (S61)))) = some r := H
 have A3 := zA A30
 clear A30
 obtain ⟨y527, aa⟩ : ∃ y_ : List (S61), y_ = (([(⟨t518, t519, t520⟩ : S61), (⟨t521, t522, t523⟩ : S61), (⟨t524, t525, t526⟩ : S61)] : List (S61))) := ⟨_, rfl⟩
 replace H : (some y527) = some r := zqF aa H
 have ab := zA aa
 clear aa
 obtain rfl := Option.some.inj H
 go_enter Try.func26, Try.ntmps26
 go_wp2_with (first | ((with_reducible refine gate_callee (f := 27) rfl ?_); refine goesL_ (some 1) rfl rfl Try.func27 (by kernel_rfl) rfl #[.int .i64 0, .int .i64 40, .int .i64 5] rfl zqE ?_; (with_reducible refine (pianolalaw02_note.calls 0 40 5 t518 t519 t520 _ A1.out).mono ?_); rintro e w4 ⟨rfl, hb⟩; refine ⟨_, rfl, ?_⟩; replace HB := zA (below_step (zqA HB.out) hb); (try clear hb); (try clear hb2); (try clear hk); (try clear hi)) | ((with_reducible refine gate_callee (f := 27) rfl ?_); refine goesL_ (some 2) rfl rfl Try.func27 (by kernel_rfl) rfl #[.int .i64 10, .int .i64 42, .int .i64 5] rfl zqE ?_; (with_reducible refine (pianolalaw02_note.calls 10 42 5 t521 t522 t523 _ A2.out).mono ?_); rintro e w5 ⟨rfl, hb⟩; refine ⟨_, rfl, ?_⟩; replace HB := zA (below_step (zqA HB.out) hb); (try clear hb); (try clear hb2); (try clear hk); (try clear hi)) | ((with_reducible refine gate_callee (f := 27) rfl ?_); refine goesL_ (some 3) rfl rfl Try.func27 (by kernel_rfl) rfl #[.int .i64 20, .int .i64 44, .int .i64 5] rfl zqE ?_; (with_reducible refine (pianolalaw02_note.calls 20 44 5 t524 t525 t526 _ A3.out).mono ?_); rintro e w6 ⟨rfl, hb⟩; refine ⟨_, rfl, ?_⟩; replace HB := zA (below_step (zqA HB.out) hb); (try clear hb); (try clear hb2); (try clear hk); (try clear hi)) | ((with_reducible refine gate_dst (N := 4) rfl ?_); refine Kd.R_lit k61 _ 61 ?hg (N := 4) ?hd (xs := ([(⟨t518, t519, t520⟩ : S61), (⟨t521, t522, t523⟩ : S61), (⟨t524, t525, t526⟩ : S61)] : List (S61))) (inner := [.int .i64 t518, .int .i64 t519, .int .i64 t520, .int .i64 t521, .int .i64 t522, .int .i64 t523, .int .i64 t524, .int .i64 t525, .int .i64 t526]) (ok := fun _ => True) (okp := fun _ => True) ?hr ?hp (fun _ hk => hk) trivial (Below.refl _ _) (Nat.le_refl _) (by simp) ?_; (case hd => rfl); (case hg => rfl); (case hr => first | (go_simp; done) | (go_simp; rfl)); (case hp => exact (Reps.c3 (show Kd.M k61 _ _ _ (⟨t518, t519, t520⟩ : S61) [.int .i64 t518, .int .i64 t519, .int .i64 t520] from (k61_mkM _ _ _ (⟨t518, t519, t520⟩ : S61) )) (Reps.c3 (show Kd.M k61 _ _ _ (⟨t521, t522, t523⟩ : S61) [.int .i64 t521, .int .i64 t522, .int .i64 t523] from (k61_mkM _ _ _ (⟨t521, t522, t523⟩ : S61) )) (Reps.c3 (show Kd.M k61 _ _ _ (⟨t524, t525, t526⟩ : S61) [.int .i64 t524, .int .i64 t525, .int .i64 t526] from (k61_mkM _ _ _ (⟨t524, t525, t526⟩ : S61) )) (Reps.none _ _))))); intro v528 w7 ho8 hb hg_ hnew_; clear hg_ hnew_; (first | rw [← ab.out] at ho8 | (simp only [Int.reduceToNat] at ho8; rw [← ab.out] at ho8)); have HO529 := zA (Kd.R_lower ho8 (below_size (zqA HB.out))); replace HB := zA (below_step (zqA HB.out) hb); clear hb ho8))
 go_ret
 exact ⟨_, zqR, zqC HO529.out, zqA HB.out⟩
end Go.Proofs.Ytehpbmdphfbooaa.P
end
section
namespace Go.Proofs.Ytehpbmdphfbooaa.P
open Go.RowKit Go.Proofs.YtehpbmdphfbooaaW.PrintWords Go.Proofs.YtehpbmdphfbooaaW.PrintLast Go.Proofs.YtehpbmdphfbooaaW.PrintMore
attribute [local go_sem] max2_int min2_int max_two min_two max_three min_three max_four min_four
set_option linter.unusedVariables false
set_option linter.unusedSimpArgs false
attribute [local go_sem high] eqA61 eqA67 eqA106 eqA110
def edit_Origin.l0 : Nat → List (S67) → Int → Int → Int → Bool → Option (Int)
  | 0, _, _, _, _, _ => none
  | k + 1, x0, x7, x8, x1185000, x1185001 => if x8 < x7 then (if 0 ≤ x8 then (if x8 < (x0.length : Int) then (if (x1185000 == ((rd_T67 x0 x8).f0) && (x1185001 == ((rd_T67 x0 x8).f1))) = true then (some x8) else (edit_Origin.l0 k x0 x7 (wrap64 (x8 + 1)) x1185000 x1185001)) else (none)) else (none)) else (some (-1))
def edit_Origin.f (k : Nat) (l0 : List (S67)) (a1_0 : Int) (a1_1 : Bool) : Option (Int) := edit_Origin.l0 k l0 (l0.length : Int) 0 a1_0 a1_1
set_option maxHeartbeats 8000000 in
set_option maxRecDepth 100000 in
theorem edit_Origin.calls (k : Nat) (A0 : Option Addr) (c0 : Nat) (l0 : List (S67)) (a1_0 : Int) (a1_1 : Bool) (r : Int) (w : World) (ad : Kd.C k67 w A0 l0.length l0) (hc0 : l0.length ≤ c0) (h : edit_Origin.f k l0 a1_0 a1_1 = some r) :
  Calls Try.prog 94 #[.slice A0 l0.length c0, .agg #[.int .i64 a1_0, .bool a1_1]] w fun e w' => e = .returned (.int .i64 r) ∧ Below w.heap.size w w' := by
 have hu67 := Try.underlying67
 have ae := zA ad
 have HC0 := zA hc0
 clear ad hc0
 have HB := zA (Below.refl w.heap.size w)
 have H : (edit_Origin.l0 k l0 (l0.length : Int) 0 a1_0 a1_1) = some r := h
 clear h
 have H' := zA H
 clear H
 go_enter Try.func94, Try.ntmps94
 go_wp2_with (first | ((with_reducible refine gate_dst (N := 3) rfl ?_); refine box_event ?hg (N := 3) ?hd (cs := #[.int .i64 a1_0, .bool a1_1]) (t := 67) ?hr ?_; (case hd => rfl); (case hg => rfl); (case hr => first | (go_simp; done) | (go_simp; rfl)); intro aa hg w3 hbox hb; have ab := zA (hbox); have af := zA ((by rw [hg]; exact (below_size (zqA HB.out)) : w.heap.size ≤ aa)); have ac := zA ((by rw [hg]; exact (below_size (zqA HB.out)) : w.heap.size ≤ aa)); replace HB := zA (below_step (zqA HB.out) hb); clear hb hbox hg))
 repeat (go_quiet (first | ((with_reducible refine gate_dst (N := 3) rfl ?_); refine box_event ?hg (N := 3) ?hd (cs := #[.int .i64 a1_0, .bool a1_1]) (t := 67) ?hr ?_; (case hd => rfl); (case hg => rfl); (case hr => first | (go_simp; done) | (go_simp; rfl)); intro aa hg w3 hbox hb; have ab := zA (hbox); have af := zA ((by rw [hg]; exact (below_size (zqA HB.out)) : w.heap.size ≤ aa)); have ac := zA ((by rw [hg]; exact (below_size (zqA HB.out)) : w.heap.size ≤ aa)); replace HB := zA (below_step (zqA HB.out) hb); clear hb hbox hg)); try go_wp2_with (first | ((with_reducible refine gate_dst (N := 3) rfl ?_); refine box_event ?hg (N := 3) ?hd (cs := #[.int .i64 a1_0, .bool a1_1]) (t := 67) ?hr ?_; (case hd => rfl); (case hg => rfl); (case hr => first | (go_simp; done) | (go_simp; rfl)); intro aa hg w3 hbox hb; have ab := zA (hbox); have af := zA ((by rw [hg]; exact (below_size (zqA HB.out)) : w.heap.size ≤ aa)); have ac := zA ((by rw [hg]; exact (below_size (zqA HB.out)) : w.heap.size ≤ aa)); replace HB := zA (below_step (zqA HB.out) hb); clear hb hbox hg)))
 go_loopg [8] k (fun kq v8 w' => ∃ (x8_1 : Int), v8 = .int .i64 x8_1 ∧ Aside0 (edit_Origin.l0 kq l0 (l0.length : Int) x8_1 a1_0 a1_1 = some r) ∧ Aside0 (kq ≤ k) ∧ Aside0 (w'.heap[aa]? = some (.cells #[.int .i64 a1_0, .bool a1_1] 67 (0, 0))) ∧ Aside0 (Below w.heap.size w w'))
 case atStart => exact ⟨(0), zqQ, H', ⟨Nat.le_refl _⟩, ⟨zqB ab.out⟩, ⟨zqG HB.out ac.out⟩⟩
 case round =>
  clear H'
  obtain ⟨x8_1, rfl, HA, HK1, ab, HB⟩ := hrel
  cases gk with
  | zero => exact absurd HA.out (by simp [edit_Origin.l0])
  | succ k1 =>
   have H := HA.out
   clear HA
   simp only [edit_Origin.l0] at H
   by_cases c4 : x8_1 < (l0.length : Int)
   ·
    rw [if_pos c4] at H
    have c4b0 : decide (x8_1 < (l0.length : Int)) = true := decide_eq_true c4
    clear c4
    by_cases c5 : 0 ≤ x8_1
    ·
     rw [if_pos c5] at H
     have c5b0 : decide (0 ≤ x8_1) = true := decide_eq_true c5
     clear c5
     by_cases c6 : x8_1 < (l0.length : Int)
     ·
      rw [if_pos c6] at H
      have c6b0 : decide (x8_1 < (l0.length : Int)) = true := decide_eq_true c6
      clear c6
      by_cases c7 : (a1_0 == ((rd_T67 l0 x8_1).f0) && (a1_1 == ((rd_T67 l0 x8_1).f1))) = true
      ·
       rw [if_pos c7] at H
       have c7b0 : (a1_0 == ((rd_T67 l0 x8_1).f0) && (a1_1 == ((rd_T67 l0 x8_1).f1))) = true := c7
       (try (have c7b1 : decide (a1_0 = ((rd_T67 l0 x8_1).f0) && (a1_1 == ((rd_T67 l0 x8_1).f1))) = true := by simpa using c7))
       (try (have c7b2 : (a1_0 == ((rd_T67 l0 x8_1).f0) && (a1_1 == ((rd_T67 l0 x8_1).f1))) = true := by simpa using c7))
       clear c7
       obtain rfl := Option.some.inj H
       have hcz8_0 : wr.cell? ⟨aa, 0, none⟩ = some (.int .i64 a1_0) := (blk_cell ab.out 0).trans rfl
       have hcz8_1 : wr.cell? ⟨aa, 1, none⟩ = some (.bool a1_1) := (blk_cell ab.out 1).trans rfl
       have hfz8_0 := blk_frozen ab.out 0
       have hfz8_1 := blk_frozen ab.out 1
       have p1185 : 0 ≤ (x8_1 : Int) := of_decide_eq_true (zqD)
       have q1185 : x8_1 < (l0.length : Int) := of_decide_eq_true (zqD)
       obtain ⟨ad1185, e1185, hx1185_0, hx1185_1⟩ := at_T67 ae.out x8_1 p1185 q1185
       cases e1185
       replace hx1185_0 := (HB.out.cell (World.block_lt_of_cell? w _ hx1185_0)).trans hx1185_0
       replace hx1185_1 := (HB.out.cell (World.block_lt_of_cell? w _ hx1185_1)).trans hx1185_1
       replace p1185 := eq_true p1185; replace q1185 := eq_true q1185
       go_wp2
       repeat (go_quiet (fail); try go_wp2)
       go_ret
       exact ⟨zqR, zqG HB.out ac.out⟩
      ·
       rw [if_neg c7] at H
       have c7b0 : (a1_0 == ((rd_T67 l0 x8_1).f0) && (a1_1 == ((rd_T67 l0 x8_1).f1))) = false := by simpa using c7
       (try (have c7b1 : decide (a1_0 = ((rd_T67 l0 x8_1).f0) && (a1_1 == ((rd_T67 l0 x8_1).f1))) = false := by simpa using c7))
       (try (have c7b2 : (a1_0 == ((rd_T67 l0 x8_1).f0) && (a1_1 == ((rd_T67 l0 x8_1).f1))) = false := by simpa using c7))
       (try (have c7b3 : ¬ (a1_0 = ((rd_T67 l0 x8_1).f0) && (a1_1 == ((rd_T67 l0 x8_1).f1))) := by simpa using c7))
       clear c7
       have H' := zA H
       clear H
       have hcz9_0 : wr.cell? ⟨aa, 0, none⟩ = some (.int .i64 a1_0) := (blk_cell ab.out 0).trans rfl
       have hcz9_1 : wr.cell? ⟨aa, 1, none⟩ = some (.bool a1_1) := (blk_cell ab.out 1).trans rfl
       have hfz9_0 := blk_frozen ab.out 0
       have hfz9_1 := blk_frozen ab.out 1
       have p1185 : 0 ≤ (x8_1 : Int) := of_decide_eq_true (zqD)
       have q1185 : x8_1 < (l0.length : Int) := of_decide_eq_true (zqD)
       obtain ⟨ad1185, e1185, hx1185_0, hx1185_1⟩ := at_T67 ae.out x8_1 p1185 q1185
       cases e1185
       replace hx1185_0 := (HB.out.cell (World.block_lt_of_cell? w _ hx1185_0)).trans hx1185_0
       replace hx1185_1 := (HB.out.cell (World.block_lt_of_cell? w _ hx1185_1)).trans hx1185_1
       replace p1185 := eq_true p1185; replace q1185 := eq_true q1185
       go_wp2
       repeat (go_quiet (fail); try go_wp2)
       go_roundg k1
       case measure => have := HK1.out; omega
       case rel => exact ⟨(wrap64 (x8_1 + 1)), zqQ, H', ⟨by have := HK1.out; omega⟩, ⟨zqB ab.out⟩, ⟨zqG HB.out ac.out⟩⟩
     ·
      rw [if_neg c6] at H
      exact absurd H (by simp)
    ·
     rw [if_neg c5] at H
     exact absurd H (by simp)
   ·
    rw [if_neg c4] at H
    have c4b0 : decide (x8_1 < (l0.length : Int)) = false := decide_eq_false c4
    clear c4
    obtain rfl := Option.some.inj H
    go_wp2
    repeat (go_quiet (fail); try go_wp2)
    go_ret
    exact ⟨zqR, zqG HB.out ac.out⟩
def edit_Origin_self.f (a0_0 : Int) (a0_1 : Bool) : Option (Bool) := if a0_0 ≥ 0 then (some (!a0_1)) else (some false)
set_option maxHeartbeats 8000000 in
set_option maxRecDepth 100000 in
theorem edit_Origin_self.calls (a0_0 : Int) (a0_1 : Bool) (r : Bool) (w : World) (h : edit_Origin_self.f a0_0 a0_1 = some r) :
  Calls Try.prog 71 #[.agg #[.int .i64 a0_0, .bool a0_1]] w fun e w' => e = .returned (.bool r) ∧ Below w.heap.size w w' := by
 have hu67 := Try.underlying67
 have HB := zA (Below.refl w.heap.size w)
 have H : (if a0_0 ≥ 0 then (some (!a0_1)) else (some false)) = some r := h
 clear h
 by_cases c2 : a0_0 ≥ 0
 ·
  rw [if_pos c2] at H
  have c2b0 : decide (0 ≤ a0_0) = true := decide_eq_true c2
  clear c2
  obtain rfl := Option.some.inj H
  go_enter Try.func71, Try.ntmps71
  go_wp2_with (first | ((with_reducible refine gate_dst (N := 1) rfl ?_); refine box_event ?hg (N := 1) ?hd (cs := #[.int .i64 a0_0, .bool a0_1]) (t := 67) ?hr ?_; (case hd => rfl); (case hg => rfl); (case hr => first | (go_simp; done) | (go_simp; rfl)); intro gb1186 hg w3 hbox hb; have BK1186 := zA (hbox); have GW1186 := zA ((by rw [hg]; exact (below_size (zqA HB.out)) : w.heap.size ≤ gb1186)); have GE1186 := zA ((by rw [hg]; exact (below_size (zqA HB.out)) : w.heap.size ≤ gb1186)); replace HB := zA (below_step (zqA HB.out) hb); clear hb hbox hg; have hcz4_0 : w3.cell? ⟨gb1186, 0, none⟩ = some (.int .i64 a0_0) := (blk_cell BK1186.out 0).trans rfl; have hcz4_1 : w3.cell? ⟨gb1186, 1, none⟩ = some (.bool a0_1) := (blk_cell BK1186.out 1).trans rfl; have hfz4_0 := blk_frozen BK1186.out 0; have hfz4_1 := blk_frozen BK1186.out 1))
  go_ret
  exact ⟨zqR, zqG HB.out GE1186.out⟩
 ·
  rw [if_neg c2] at H
  have c2b0 : decide (0 ≤ a0_0) = false := decide_eq_false c2
  clear c2
  obtain rfl := Option.some.inj H
  go_enter Try.func71, Try.ntmps71
  go_wp2_with (first | ((with_reducible refine gate_dst (N := 1) rfl ?_); refine box_event ?hg (N := 1) ?hd (cs := #[.int .i64 a0_0, .bool a0_1]) (t := 67) ?hr ?_; (case hd => rfl); (case hg => rfl); (case hr => first | (go_simp; done) | (go_simp; rfl)); intro gb1186 hg w5 hbox hb; have BK1186 := zA (hbox); have GW1186 := zA ((by rw [hg]; exact (below_size (zqA HB.out)) : w.heap.size ≤ gb1186)); have GE1186 := zA ((by rw [hg]; exact (below_size (zqA HB.out)) : w.heap.size ≤ gb1186)); replace HB := zA (below_step (zqA HB.out) hb); clear hb hbox hg; have hcz6_0 : w5.cell? ⟨gb1186, 0, none⟩ = some (.int .i64 a0_0) := (blk_cell BK1186.out 0).trans rfl; have hcz6_1 : w5.cell? ⟨gb1186, 1, none⟩ = some (.bool a0_1) := (blk_cell BK1186.out 1).trans rfl; have hfz6_0 := blk_frozen BK1186.out 0; have hfz6_1 := blk_frozen BK1186.out 1))
  go_ret
  exact ⟨zqR, zqG HB.out GE1186.out⟩
def api_Errno.l0 : Nat → Int → List Int → Int → Int → Option (Int)
  | 0, _, _, _, _ => none
  | k + 1, x3, x6, x7, x8 => if x8 < x7 then (if 0 ≤ x8 then (if x8 < (x6.length : Int) then (if (rd x6 x8) = x3 then (api_Errno.l0 k x3 x6 x7 (wrap64 (x8 + 1))) else (some (rd x6 x8))) else (none)) else (none)) else (some x3)
def api_Errno.f (k : Nat) (l0 : List Int) : Option (Int) := api_Errno.l0 k 0 l0 (l0.length : Int) 0
set_option maxHeartbeats 8000000 in
set_option maxRecDepth 100000 in
theorem api_Errno.calls (k : Nat) (A0 : Option Addr) (c0 : Nat) (l0 : List Int) (r : Int) (w : World) (aa : Kd.C (Kd.int .i64) w A0 l0.length l0) (hc0 : l0.length ≤ c0) (h : api_Errno.f k l0 = some r) :
  Calls Try.prog 58 #[.slice A0 l0.length c0] w fun e w' => e = .returned (.int .i64 r) ∧ Drawn0 w w' := by
 have ab := zA aa
 have HC0 := zA hc0
 clear aa hc0
 have H : (api_Errno.l0 k 0 l0 (l0.length : Int) 0) = some r := h
 clear h
 have H' := zA H
 clear H
 go_enter Try.func58, Try.ntmps58
 go_wp2
 go_loopg [8] k (fun kq v8 w' => ∃ (x8_1 : Int), v8 = .int .i64 x8_1 ∧ Aside0 (api_Errno.l0 kq 0 l0 (l0.length : Int) x8_1 = some r) ∧ Aside0 (kq ≤ k) ∧ Drawn0 w w')
 case atStart => exact ⟨(0), zqQ, H', ⟨Nat.le_refl _⟩, by repeat (first | exact Drawn0.refl _ | apply Drawn0.step)⟩
 case round =>
  clear H'
  obtain ⟨x8_1, rfl, HA, HK1, ⟨m1, rfl⟩⟩ := hrel
  cases gk with
  | zero => exact absurd HA.out (by simp [api_Errno.l0])
  | succ k1 =>
   have H := HA.out
   clear HA
   simp only [api_Errno.l0] at H
   by_cases c2 : x8_1 < (l0.length : Int)
   ·
    rw [if_pos c2] at H
    have c2b0 : decide (x8_1 < (l0.length : Int)) = true := decide_eq_true c2
    clear c2
    by_cases c3 : 0 ≤ x8_1
    ·
     rw [if_pos c3] at H
     have c3b0 : decide (0 ≤ x8_1) = true := decide_eq_true c3
     clear c3
     by_cases c4 : x8_1 < (l0.length : Int)
     ·
      rw [if_pos c4] at H
      have c4b0 : decide (x8_1 < (l0.length : Int)) = true := decide_eq_true c4
      clear c4
      by_cases c5 : (rd l0 x8_1) = 0
      ·
       rw [if_pos c5] at H
       have c5b0 : ((rd l0 x8_1) == 0) = true := beq_iff_eq.mpr c5
       have c5b1 : ((rd l0 x8_1) != 0) = false := bne_eq_false_iff_eq.mpr c5
       clear c5
       have H' := zA H
       clear H
       have p1187 : 0 ≤ (x8_1 : Int) := of_decide_eq_true (zqD)
       have q1187 : x8_1 < (l0.length : Int) := of_decide_eq_true (zqD)
       obtain ⟨ad1187, e1187, hx1187_0⟩ := Kd.at_int ab.out x8_1 p1187 q1187
       cases e1187; replace p1187 := eq_true p1187; replace q1187 := eq_true q1187
       go_wp2
       go_roundg k1
       case measure => have := HK1.out; omega
       case rel => exact ⟨(wrap64 (x8_1 + 1)), zqQ, H', ⟨by have := HK1.out; omega⟩, by repeat (first | exact Drawn0.refl _ | apply Drawn0.step)⟩
      ·
       rw [if_neg c5] at H
       have c5b0 : ((rd l0 x8_1) == 0) = false := beq_eq_false_iff_ne.mpr c5
       have c5b1 : ((rd l0 x8_1) != 0) = true := bne_iff_ne.mpr c5
       obtain rfl := Option.some.inj H
       have p1187 : 0 ≤ (x8_1 : Int) := of_decide_eq_true (zqD)
       have q1187 : x8_1 < (l0.length : Int) := of_decide_eq_true (zqD)
       obtain ⟨ad1187, e1187, hx1187_0⟩ := Kd.at_int ab.out x8_1 p1187 q1187
       cases e1187; replace p1187 := eq_true p1187; replace q1187 := eq_true q1187
       go_wp2
       go_ret
       exact ⟨by first | rfl | (simp; done) | (simp [*]; done), by repeat (first | exact Drawn0.refl _ | apply Drawn0.step)⟩
     ·
      rw [if_neg c4] at H
      exact absurd H (by simp)
    ·
     rw [if_neg c3] at H
     exact absurd H (by simp)
   ·
    rw [if_neg c2] at H
    have c2b0 : decide (x8_1 < (l0.length : Int)) = false := decide_eq_false c2
    clear c2
    obtain rfl := Option.some.inj H
    go_wp2
    go_ret
    exact ⟨by first | rfl | (simp; done) | (simp [*]; done), by repeat (first | exact Drawn0.refl _ | apply Drawn0.step)⟩
def edit_Note.l0 : Nat → List (S61) → List (S61) → Int → Int → Option (Bool)
  | 0, _, _, _, _ => none
  | k + 1, x0, x1, x12, x13 => if x13 < x12 then (if 0 ≤ x13 then (if x13 < (x0.length : Int) then (if x13 < (x1.length : Int) then (if (!(((rd_T61 x0 x13).f0) == ((rd_T61 x1 x13).f0)) || (!(((rd_T61 x0 x13).f1) == ((rd_T61 x1 x13).f1)) || (!(((rd_T61 x0 x13).f2) == ((rd_T61 x1 x13).f2))))) = true then (some false) else (edit_Note.l0 k x0 x1 x12 (wrap64 (x13 + 1)))) else (none)) else (none)) else (none)) else (some true)
def edit_Note.f (k : Nat) (l0 : List (S61)) (l1 : List (S61)) : Option (Bool) := if (l0.length : Int) = (l1.length : Int) then (edit_Note.l0 k l0 l1 (l0.length : Int) 0) else (some false)
set_option maxHeartbeats 8000000 in
set_option maxRecDepth 100000 in
theorem edit_Note.calls (k : Nat) (A0 : Option Addr) (c0 : Nat) (l0 : List (S61)) (A1 : Option Addr) (c1 : Nat) (l1 : List (S61)) (r : Bool) (w : World) (aa : Kd.C k61 w A0 l0.length l0) (hc0 : l0.length ≤ c0) (ab : Kd.C k61 w A1 l1.length l1) (hc1 : l1.length ≤ c1) (h : edit_Note.f k l0 l1 = some r) :
  Calls Try.prog 59 #[.slice A0 l0.length c0, .slice A1 l1.length c1] w fun e w' => e = .returned (.bool r) ∧ Drawn0 w w' := by
 have hu61 := Try.underlying61
 have ac := zA aa
 have HC0 := zA hc0
 clear aa hc0
 have ad := zA ab
 have HC1 := zA hc1
 clear ab hc1
 have H : (if (l0.length : Int) = (l1.length : Int) then (edit_Note.l0 k l0 l1 (l0.length : Int) 0) else (some false)) = some r := h
 clear h
 by_cases c3 : (l0.length : Int) = (l1.length : Int)
 ·
  rw [if_pos c3] at H
  have c3b0 : ((l0.length : Int) == (l1.length : Int)) = true := beq_iff_eq.mpr c3
  have c3b1 : ((l0.length : Int) != (l1.length : Int)) = false := bne_eq_false_iff_eq.mpr c3
  have c3b2 : (l0.length == l1.length) = true := by first | simpa using c3 | (simp at c3 ⊢; omega)
  clear c3
  have H' := zA H
  clear H
  go_enter Try.func59, Try.ntmps59
  go_wp2
  repeat (go_quiet (fail); try go_wp2)
  go_loopg [13] k (fun kq v13 w' => ∃ (x13_1 : Int), v13 = .int .i64 x13_1 ∧ Aside0 (edit_Note.l0 kq l0 l1 (l0.length : Int) x13_1 = some r) ∧ Aside0 (kq ≤ k) ∧ Drawn0 w w')
  case atStart => exact ⟨(0), zqQ, H', ⟨Nat.le_refl _⟩, by repeat (first | exact Drawn0.refl _ | apply Drawn0.step)⟩
  case round =>
   clear H'
   obtain ⟨x13_1, rfl, HA, HK1, ⟨m1, rfl⟩⟩ := hrel
   cases gk with
   | zero => exact absurd HA.out (by simp [edit_Note.l0])
   | succ k1 =>
    have H := HA.out
    clear HA
    simp only [edit_Note.l0] at H
    by_cases c4 : x13_1 < (l0.length : Int)
    ·
     rw [if_pos c4] at H
     have c4b0 : decide (x13_1 < (l0.length : Int)) = true := decide_eq_true c4
     clear c4
     by_cases c5 : 0 ≤ x13_1
     ·
      rw [if_pos c5] at H
      have c5b0 : decide (0 ≤ x13_1) = true := decide_eq_true c5
      clear c5
      by_cases c6 : x13_1 < (l0.length : Int)
      ·
       rw [if_pos c6] at H
       have c6b0 : decide (x13_1 < (l0.length : Int)) = true := decide_eq_true c6
       clear c6
       by_cases c7 : x13_1 < (l1.length : Int)
       ·
        rw [if_pos c7] at H
        have c7b0 : decide (x13_1 < (l1.length : Int)) = true := decide_eq_true c7
        clear c7
        by_cases c8 : (!(((rd_T61 l0 x13_1).f0) == ((rd_T61 l1 x13_1).f0)) || (!(((rd_T61 l0 x13_1).f1) == ((rd_T61 l1 x13_1).f1)) || (!(((rd_T61 l0 x13_1).f2) == ((rd_T61 l1 x13_1).f2))))) = true
        ·
         rw [if_pos c8] at H
         have c8b0 : (!(((rd_T61 l0 x13_1).f0) == ((rd_T61 l1 x13_1).f0)) || (!(((rd_T61 l0 x13_1).f1) == ((rd_T61 l1 x13_1).f1)) || (!(((rd_T61 l0 x13_1).f2) == ((rd_T61 l1 x13_1).f2))))) = true := c8
         clear c8
         obtain rfl := Option.some.inj H
         have p1188 : 0 ≤ (x13_1 : Int) := of_decide_eq_true (zqD)
         have q1188 : x13_1 < (l0.length : Int) := of_decide_eq_true (zqD)
         obtain ⟨ad1188, e1188, hx1188_0, hx1188_1, hx1188_2⟩ := at_T61 ac.out x13_1 p1188 q1188
         cases e1188; replace p1188 := eq_true p1188; replace q1188 := eq_true q1188
         have p1189 : 0 ≤ (x13_1 : Int) := of_decide_eq_true (zqD)
         have q1189 : x13_1 < (l1.length : Int) := of_decide_eq_true (zqD)
         obtain ⟨ad1189, e1189, hx1189_0, hx1189_1, hx1189_2⟩ := at_T61 ad.out x13_1 p1189 q1189
         cases e1189; replace p1189 := eq_true p1189; replace q1189 := eq_true q1189
         go_wp2
         repeat (go_quiet (fail); try go_wp2)
         go_ret
         exact ⟨by first | rfl | (simp; done) | (simp [*]; done), by repeat (first | exact Drawn0.refl _ | apply Drawn0.step)⟩
        ·
         rw [if_neg c8] at H
         have c8b0 : (!(((rd_T61 l0 x13_1).f0) == ((rd_T61 l1 x13_1).f0)) || (!(((rd_T61 l0 x13_1).f1) == ((rd_T61 l1 x13_1).f1)) || (!(((rd_T61 l0 x13_1).f2) == ((rd_T61 l1 x13_1).f2))))) = false := by simpa using c8
         clear c8
         have H' := zA H
         clear H
         have p1188 : 0 ≤ (x13_1 : Int) := of_decide_eq_true (zqD)
         have q1188 : x13_1 < (l0.length : Int) := of_decide_eq_true (zqD)
         obtain ⟨ad1188, e1188, hx1188_0, hx1188_1, hx1188_2⟩ := at_T61 ac.out x13_1 p1188 q1188
         cases e1188; replace p1188 := eq_true p1188; replace q1188 := eq_true q1188
         have p1189 : 0 ≤ (x13_1 : Int) := of_decide_eq_true (zqD)
         have q1189 : x13_1 < (l1.length : Int) := of_decide_eq_true (zqD)
         obtain ⟨ad1189, e1189, hx1189_0, hx1189_1, hx1189_2⟩ := at_T61 ad.out x13_1 p1189 q1189
         cases e1189; replace p1189 := eq_true p1189; replace q1189 := eq_true q1189
         go_wp2
         repeat (go_quiet (fail); try go_wp2)
         go_roundg k1
         case measure => have := HK1.out; omega
         case rel => exact ⟨(wrap64 (x13_1 + 1)), zqQ, H', ⟨by have := HK1.out; omega⟩, by repeat (first | exact Drawn0.refl _ | apply Drawn0.step)⟩
       ·
        rw [if_neg c7] at H
        exact absurd H (by simp)
      ·
       rw [if_neg c6] at H
       exact absurd H (by simp)
     ·
      rw [if_neg c5] at H
      exact absurd H (by simp)
    ·
     rw [if_neg c4] at H
     have c4b0 : decide (x13_1 < (l0.length : Int)) = false := decide_eq_false c4
     clear c4
     obtain rfl := Option.some.inj H
     go_wp2
     repeat (go_quiet (fail); try go_wp2)
     go_ret
     exact ⟨by first | rfl | (simp; done) | (simp [*]; done), by repeat (first | exact Drawn0.refl _ | apply Drawn0.step)⟩
 ·
  rw [if_neg c3] at H
  have c3b0 : ((l0.length : Int) == (l1.length : Int)) = false := beq_eq_false_iff_ne.mpr c3
  have c3b1 : ((l0.length : Int) != (l1.length : Int)) = true := bne_iff_ne.mpr c3
  have c3b2 : (l0.length == l1.length) = false := by first | simpa using c3 | (simp at c3 ⊢; omega)
  obtain rfl := Option.some.inj H
  go_enter Try.func59, Try.ntmps59
  go_wp2
  repeat (go_quiet (fail); try go_wp2)
  go_ret
  exact ⟨by first | rfl | (simp; done) | (simp [*]; done), by repeat (first | exact Drawn0.refl _ | apply Drawn0.step)⟩
def edit_Patch_kept.f (k : Nat) (l0_0 : List (S61)) (l0_1 : List (S61)) (l0_2 : List (S67)) (a1 : Int) : Option (Int) := (edit_Origin.f k l0_2 a1 false).bind fun t1191 => (some t1191)
set_option maxHeartbeats 8000000 in
set_option maxRecDepth 100000 in
theorem edit_Patch_kept.calls (k : Nat) (ah : Option Addr) (ai : Nat) (ab : List (S61)) (aj : Option Addr) (ak : Nat) (ac : List (S61)) (ae : Option Addr) (af : Nat) (aa : List (S67)) (a1 : Int) (r : Int) (w : World) (al : Kd.C k61 w ah ab.length ab) (am : ab.length ≤ ai) (an : Kd.C k61 w aj ac.length ac) (ao : ac.length ≤ ak) (ap : Kd.C k67 w ae aa.length aa) (aq : aa.length ≤ af) (h : edit_Patch_kept.f k ab ac aa a1 = some r) :
  Calls Try.prog 68 #[.agg #[.slice ah ab.length ai, .slice aj ac.length ak, .slice ae aa.length af], .int .i64 a1] w fun e w' => e = .returned (.int .i64 r) ∧ Below w.heap.size w w' := by
 have hu28 := Try.underlying28
 have hu67 := Try.underlying67
 have HR0_0 := zA al
 have HC0_0 := zA am
 clear al am
 have HR0_1 := zA an
 have HC0_1 := zA ao
 clear an ao
 have HR0_2 := zA ap
 have HC0_2 := zA aq
 clear ap aq
 have HB := zA (Below.refl w.heap.size w)
 have H : ((edit_Origin.f k aa a1 false).bind fun t1191 => (some t1191)) = some r := h
 clear h
 replace H := Option.bind_eq_some_iff.mp H
 obtain ⟨t1191, A30, H⟩ := H
 replace H : (some t1191) = some r := H
 have A3 := zA A30
 clear A30
 obtain rfl := Option.some.inj H
 go_enter Try.func68, Try.ntmps68
 go_wp2_with (first | ((with_reducible refine gate_dst (N := 2) rfl ?_); refine box_event ?hg (N := 2) ?hd (cs := #[.slice ah ab.length ai, .slice aj ac.length ak, .slice ae aa.length af]) (t := 28) ?hr ?_; (case hd => rfl); (case hg => rfl); (case hr => first | (go_simp; done) | (go_simp; rfl)); intro ag hg w4 hbox hb; have ad := zA (hbox); have GW1190 := zA ((by rw [hg]; exact (below_size (zqA HB.out)) : w.heap.size ≤ ag)); have ar := zA ((by rw [hg]; exact (below_size (zqA HB.out)) : w.heap.size ≤ ag)); replace HB := zA (below_step (zqA HB.out) hb); clear hb hbox hg; have hcz5_0 : w4.cell? ⟨ag, 0, none⟩ = some (.slice ah ab.length ai) := (blk_cell ad.out 0).trans rfl; have hcz5_1 : w4.cell? ⟨ag, 1, none⟩ = some (.slice aj ac.length ak) := (blk_cell ad.out 1).trans rfl; have hcz5_2 : w4.cell? ⟨ag, 2, none⟩ = some (.slice ae aa.length af) := (blk_cell ad.out 2).trans rfl; have hfz5_0 := blk_frozen ad.out 0; have hfz5_1 := blk_frozen ad.out 1; have hfz5_2 := blk_frozen ad.out 2) | ((with_reducible refine gate_callee (f := 94) rfl ?_); refine goesL_ (some 9) rfl rfl Try.func94 (by kernel_rfl) rfl #[.slice ae aa.length af, .agg #[.int .i64 a1, .bool false]] rfl zqE ?_; (with_reducible refine (edit_Origin.calls k _ _ aa a1 false t1191 _ ?side1 ?side2 A3.out).mono ?_); (case side1 => exact zqK (Kd.C_below HR0_2.out HB.out)); (case side2 => exact HC0_2.out); rintro e w6 ⟨rfl, hb⟩; refine ⟨_, rfl, ?_⟩; replace ad := zA (blk_below (g := ag) (o := .cells #[.slice ah ab.length ai, .slice aj ac.length ak, .slice ae aa.length af] 28 (0, 0)) (zqB ad.out) hb); replace HB := zA (below_step (zqG HB.out ar.out) hb); (try clear hb); (try clear hb2); (try clear hk); (try clear hi)))
 go_ret
 exact ⟨zqR, zqG HB.out ar.out⟩
def edit_Patch_copies.l0 : Nat → Int → Int → List (S67) → Int → Int → Option (Int)
  | 0, _, _, _, _, _ => none
  | k + 1, x1, x5, x9, x10, x11 => if x11 < x10 then (if 0 ≤ x11 then (if x11 < (x9.length : Int) then (if (((rd_T67 x9 x11).f0) == x1 && (((rd_T67 x9 x11).f1))) = true then (edit_Patch_copies.l0 k x1 (wrap64 (x5 + 1)) x9 x10 (wrap64 (x11 + 1))) else (edit_Patch_copies.l0 k x1 x5 x9 x10 (wrap64 (x11 + 1)))) else (none)) else (none)) else (some x5)
def edit_Patch_copies.f (k : Nat) (l0_0 : List (S61)) (l0_1 : List (S61)) (l0_2 : List (S67)) (a1 : Int) : Option (Int) := edit_Patch_copies.l0 k a1 0 l0_2 (l0_2.length : Int) 0
set_option maxHeartbeats 8000000 in
set_option maxRecDepth 100000 in
theorem edit_Patch_copies.calls (k : Nat) (ag : Option Addr) (ah : Nat) (ad : List (S61)) (ai : Option Addr) (aj : Nat) (ae : List (S61)) (ao : Option Addr) (ak : Nat) (aa : List (S67)) (a1 : Int) (r : Int) (w : World) (ar : Kd.C k61 w ag ad.length ad) (au : ad.length ≤ ah) (av : Kd.C k61 w ai ae.length ae) (aw : ae.length ≤ aj) (ax : Kd.C k67 w ao aa.length aa) (ay : aa.length ≤ ak) (h : edit_Patch_copies.f k ad ae aa a1 = some r) :
  Calls Try.prog 105 #[.agg #[.slice ag ad.length ah, .slice ai ae.length aj, .slice ao aa.length ak], .int .i64 a1] w fun e w' => e = .returned (.int .i64 r) ∧ Below w.heap.size w w' := by
 have hu28 := Try.underlying28
 have hu67 := Try.underlying67
 have HR0_0 := zA ar
 have HC0_0 := zA au
 clear ar au
 have HR0_1 := zA av
 have HC0_1 := zA aw
 clear av aw
 have az := zA ax
 have HC0_2 := zA ay
 clear ax ay
 have HB := zA (Below.refl w.heap.size w)
 have H : (edit_Patch_copies.l0 k a1 0 aa (aa.length : Int) 0) = some r := h
 clear h
 have H' := zA H
 clear H
 go_enter Try.func105, Try.ntmps105
 go_wp2_with (first | ((with_reducible refine gate_dst (N := 2) rfl ?_); refine box_event ?hg (N := 2) ?hd (cs := #[.slice ag ad.length ah, .slice ai ae.length aj, .slice ao aa.length ak]) (t := 28) ?hr ?_; (case hd => rfl); (case hg => rfl); (case hr => first | (go_simp; done) | (go_simp; rfl)); intro ac hg w3 hbox hb; have ab := zA (hbox); have GW1192 := zA ((by rw [hg]; exact (below_size (zqA HB.out)) : w.heap.size ≤ ac)); have al := zA ((by rw [hg]; exact (below_size (zqA HB.out)) : w.heap.size ≤ ac)); replace HB := zA (below_step (zqA HB.out) hb); clear hb hbox hg; have hcz4_0 : w3.cell? ⟨ac, 0, none⟩ = some (.slice ag ad.length ah) := (blk_cell ab.out 0).trans rfl; have hcz4_1 : w3.cell? ⟨ac, 1, none⟩ = some (.slice ai ae.length aj) := (blk_cell ab.out 1).trans rfl; have hcz4_2 : w3.cell? ⟨ac, 2, none⟩ = some (.slice ao aa.length ak) := (blk_cell ab.out 2).trans rfl; have hfz4_0 := blk_frozen ab.out 0; have hfz4_1 := blk_frozen ab.out 1; have hfz4_2 := blk_frozen ab.out 2))
 go_loopg [5, 11] k (fun kq v5 v11 w' => ∃ (x5_1 : Int) (x11_1 : Int), v5 = .int .i64 x5_1 ∧ v11 = .int .i64 x11_1 ∧ Aside0 (edit_Patch_copies.l0 kq a1 x5_1 aa (aa.length : Int) x11_1 = some r) ∧ Aside0 (kq ≤ k) ∧ Aside0 (w'.heap[ac]? = some (.cells #[(.slice ag ad.length ah), (.slice ai ae.length aj), (.slice ao aa.length ak)] 28 (0, 0))) ∧ Aside0 (Below w.heap.size w w'))
 case atStart => exact ⟨(0), (0), zqQ, zqQ, H', ⟨Nat.le_refl _⟩, ⟨zqB ab.out⟩, ⟨zqG HB.out al.out⟩⟩
 case round =>
  clear H'
  obtain ⟨x5_1, x11_1, rfl, rfl, HA, HK1, ab, HB⟩ := hrel
  cases gk with
  | zero => exact absurd HA.out (by simp [edit_Patch_copies.l0])
  | succ k1 =>
   have H := HA.out
   clear HA
   simp only [edit_Patch_copies.l0] at H
   by_cases c5 : x11_1 < (aa.length : Int)
   ·
    rw [if_pos c5] at H
    have c5b0 : decide (x11_1 < (aa.length : Int)) = true := decide_eq_true c5
    clear c5
    by_cases c6 : 0 ≤ x11_1
    ·
     rw [if_pos c6] at H
     have c6b0 : decide (0 ≤ x11_1) = true := decide_eq_true c6
     clear c6
     by_cases c7 : x11_1 < (aa.length : Int)
     ·
      rw [if_pos c7] at H
      have c7b0 : decide (x11_1 < (aa.length : Int)) = true := decide_eq_true c7
      clear c7
      by_cases c8 : (((rd_T67 aa x11_1).f0) == a1 && (((rd_T67 aa x11_1).f1))) = true
      ·
       rw [if_pos c8] at H
       have c8b0 : (((rd_T67 aa x11_1).f0) == a1 && (((rd_T67 aa x11_1).f1))) = true := c8
       (try (have c8b1 : decide (((rd_T67 aa x11_1).f0) = a1 && (((rd_T67 aa x11_1).f1))) = true := by simpa using c8))
       (try (have c8b2 : (((rd_T67 aa x11_1).f0) == a1 && (((rd_T67 aa x11_1).f1))) = true := by simpa using c8))
       clear c8
       have H' := zA H
       clear H
       have p1193 : 0 ≤ (x11_1 : Int) := of_decide_eq_true (zqD)
       have q1193 : x11_1 < (aa.length : Int) := of_decide_eq_true (zqD)
       obtain ⟨ad1193, e1193, hx1193_0, hx1193_1⟩ := at_T67 az.out x11_1 p1193 q1193
       cases e1193
       replace hx1193_0 := (HB.out.cell (World.block_lt_of_cell? w _ hx1193_0)).trans hx1193_0
       replace hx1193_1 := (HB.out.cell (World.block_lt_of_cell? w _ hx1193_1)).trans hx1193_1
       replace p1193 := eq_true p1193; replace q1193 := eq_true q1193
       go_wp2_with (first | ((with_reducible refine gate_dst (N := 7) rfl ?_); refine box_event ?hg (N := 7) ?hd (cs := #[.int .i64 0, .bool false]) (t := 67) ?hr ?_; (case hd => rfl); (case hg => rfl); (case hr => first | (go_simp; done) | (go_simp; rfl)); intro af hg w9 hbox hb; have am := zA (hbox); have GW1194 := zA ((by rw [hg]; exact (below_size (zqG HB.out al.out)) : w.heap.size ≤ af)); have ap := zA ((by rw [hg]; exact (below_size (zqG HB.out al.out)) : w.heap.size ≤ af)); replace HB := zA (below_step (zqG HB.out al.out) hb); have an := zA ((by rw [hg]; exact Nat.ne_of_lt (blk_lt (g := ac) (o := .cells #[.slice ag ad.length ah, .slice ai ae.length aj, .slice (some ad1193) aa.length ak] 28 (0, 0)) (zqB ab.out)) : ac ≠ af)); have aq := zA ((by rw [hg]; exact Nat.ne_of_gt (blk_lt (g := ac) (o := .cells #[.slice ag ad.length ah, .slice ai ae.length aj, .slice (some ad1193) aa.length ak] 28 (0, 0)) (zqB ab.out)) : af ≠ ac)); replace ab := zA (blk_below (g := ac) (o := .cells #[.slice ag ad.length ah, .slice ai ae.length aj, .slice (some ad1193) aa.length ak] 28 (0, 0)) (zqB ab.out) hb); clear hb hbox hg; have hnb10 := aq.out; have hnc10 := an.out; have hcz11_0 : w9.cell? ⟨af, 0, none⟩ = some (.int .i64 0) := (blk_cell am.out 0).trans rfl; have hcz11_1 : w9.cell? ⟨af, 1, none⟩ = some (.bool false) := (blk_cell am.out 1).trans rfl; have hfz11_0 := blk_frozen am.out 0; have hfz11_1 := blk_frozen am.out 1))
       go_roundg k1
       case measure => have := HK1.out; omega
       case rel => exact ⟨(wrap64 (x5_1 + 1)), (wrap64 (x11_1 + 1)), zqQ, zqQ, H', ⟨by have := HK1.out; omega⟩, ⟨by (with_reducible repeat (first | refine blk_drewN ?_ _ | refine blk_drew ?_ | refine blk_alloc ?_ _)); refine blk_far ?_ an.out _; (with_reducible repeat (first | refine blk_drewN ?_ _ | refine blk_drew ?_ | refine blk_alloc ?_ _)); refine blk_far ?_ an.out _; (with_reducible repeat (first | refine blk_drewN ?_ _ | refine blk_drew ?_ | refine blk_alloc ?_ _)); exact ab.out⟩, ⟨zqH HB.out al.out ap.out⟩⟩
      ·
       rw [if_neg c8] at H
       have c8b0 : (((rd_T67 aa x11_1).f0) == a1 && (((rd_T67 aa x11_1).f1))) = false := by simpa using c8
       (try (have c8b1 : decide (((rd_T67 aa x11_1).f0) = a1 && (((rd_T67 aa x11_1).f1))) = false := by simpa using c8))
       (try (have c8b2 : (((rd_T67 aa x11_1).f0) == a1 && (((rd_T67 aa x11_1).f1))) = false := by simpa using c8))
       (try (have c8b3 : ¬ (((rd_T67 aa x11_1).f0) = a1 && (((rd_T67 aa x11_1).f1))) := by simpa using c8))
       clear c8
       have H' := zA H
       clear H
       have p1193 : 0 ≤ (x11_1 : Int) := of_decide_eq_true (zqD)
       have q1193 : x11_1 < (aa.length : Int) := of_decide_eq_true (zqD)
       obtain ⟨ad1193, e1193, hx1193_0, hx1193_1⟩ := at_T67 az.out x11_1 p1193 q1193
       cases e1193
       replace hx1193_0 := (HB.out.cell (World.block_lt_of_cell? w _ hx1193_0)).trans hx1193_0
       replace hx1193_1 := (HB.out.cell (World.block_lt_of_cell? w _ hx1193_1)).trans hx1193_1
       replace p1193 := eq_true p1193; replace q1193 := eq_true q1193
       go_wp2_with (first | ((with_reducible refine gate_dst (N := 7) rfl ?_); refine box_event ?hg (N := 7) ?hd (cs := #[.int .i64 0, .bool false]) (t := 67) ?hr ?_; (case hd => rfl); (case hg => rfl); (case hr => first | (go_simp; done) | (go_simp; rfl)); intro af hg w12 hbox hb; have am := zA (hbox); have GW1194 := zA ((by rw [hg]; exact (below_size (zqG HB.out al.out)) : w.heap.size ≤ af)); have ap := zA ((by rw [hg]; exact (below_size (zqG HB.out al.out)) : w.heap.size ≤ af)); replace HB := zA (below_step (zqG HB.out al.out) hb); have an := zA ((by rw [hg]; exact Nat.ne_of_lt (blk_lt (g := ac) (o := .cells #[.slice ag ad.length ah, .slice ai ae.length aj, .slice (some ad1193) aa.length ak] 28 (0, 0)) (zqB ab.out)) : ac ≠ af)); have aq := zA ((by rw [hg]; exact Nat.ne_of_gt (blk_lt (g := ac) (o := .cells #[.slice ag ad.length ah, .slice ai ae.length aj, .slice (some ad1193) aa.length ak] 28 (0, 0)) (zqB ab.out)) : af ≠ ac)); replace ab := zA (blk_below (g := ac) (o := .cells #[.slice ag ad.length ah, .slice ai ae.length aj, .slice (some ad1193) aa.length ak] 28 (0, 0)) (zqB ab.out) hb); clear hb hbox hg; have hnb13 := aq.out; have hnc13 := an.out; have hcz14_0 : w12.cell? ⟨af, 0, none⟩ = some (.int .i64 0) := (blk_cell am.out 0).trans rfl; have hcz14_1 : w12.cell? ⟨af, 1, none⟩ = some (.bool false) := (blk_cell am.out 1).trans rfl; have hfz14_0 := blk_frozen am.out 0; have hfz14_1 := blk_frozen am.out 1))
       go_roundg k1
       case measure => have := HK1.out; omega
       case rel => exact ⟨(x5_1), (wrap64 (x11_1 + 1)), zqQ, zqQ, H', ⟨by have := HK1.out; omega⟩, ⟨by (with_reducible repeat (first | refine blk_drewN ?_ _ | refine blk_drew ?_ | refine blk_alloc ?_ _)); refine blk_far ?_ an.out _; (with_reducible repeat (first | refine blk_drewN ?_ _ | refine blk_drew ?_ | refine blk_alloc ?_ _)); refine blk_far ?_ an.out _; (with_reducible repeat (first | refine blk_drewN ?_ _ | refine blk_drew ?_ | refine blk_alloc ?_ _)); exact ab.out⟩, ⟨zqH HB.out al.out ap.out⟩⟩
     ·
      rw [if_neg c7] at H
      exact absurd H (by simp)
    ·
     rw [if_neg c6] at H
     exact absurd H (by simp)
   ·
    rw [if_neg c5] at H
    have c5b0 : decide (x11_1 < (aa.length : Int)) = false := decide_eq_false c5
    clear c5
    obtain rfl := Option.some.inj H
    go_wp2
    go_ret
    exact ⟨zqR, zqG HB.out al.out⟩
def edit_Patch_leaves.f (k : Nat) (l0_0 : List (S61)) (l0_1 : List (S61)) (l0_2 : List (S67)) (a1 : Int) : Option (Bool) := (edit_Patch_kept.f k l0_0 l0_1 l0_2 a1).bind fun t1196 => (if t1196 < 0 then (some true) else (if 0 ≤ t1196 then (if t1196 < (l0_1.length : Int) then ((edit_Note_place.f ((rd_T61 l0_1 t1196).f0) ((rd_T61 l0_1 t1196).f1) ((rd_T61 l0_1 t1196).f2)).bind fun bt1198 => (if 0 ≤ a1 then (if a1 < (l0_0.length : Int) then ((edit_Note_place.f ((rd_T61 l0_0 a1).f0) ((rd_T61 l0_0 a1).f1) ((rd_T61 l0_0 a1).f2)).bind fun bt1201 => (some (!(bt1198.1 == bt1201.1) || (!(bt1198.2 == bt1201.2))))) else (none)) else (none))) else (none)) else (none)))
def edit_Patch_leaves.T2 : Bool × List (List Nat × List Nat) := (true, [([], []), ([0], [0]), ([1], [1]), ([2], [2]), ([3, 2], [2, 3]), ([2], [2]), ([4, 5, 2], [2, 4, 5]), ([6, 2], [2, 6]), ([7, 2, 2], [2, 7]), ([2], [2]), ([9, 2], [2, 9]), ([2], [2]), ([10, 11, 2], [2, 10, 11]), ([12, 2], [2, 12]), ([13, 8, 2], [2, 13]), ([8, 14, 2], [2, 8, 14]), ([2, 15], [2, 15]), ([16, 14, 0, 1, 2, 3, 4, 5, 6, 7, 8, 9, 10, 11, 12, 13, 14, 15, 16], [16])])
def edit_Patch_leaves.B2 : List Nat := [0, 1, 3, 7, 15, 7, 63, 127, 255, 7, 519, 7, 3591, 7687, 16383, 32767, 65535, 131071]
theorem edit_Patch_leaves.tab2 : rtab .any (opsOf Try.f111 2) = edit_Patch_leaves.T2 := by kernel_rfl
theorem edit_Patch_leaves.bits2 : waitsOk edit_Patch_leaves.T2.2 edit_Patch_leaves.B2 = true := by kernel_rfl
set_option maxHeartbeats 8000000 in
set_option maxRecDepth 100000 in
theorem edit_Patch_leaves.calls (k : Nat) (aj : Option Addr) (af : Nat) (aa : List (S61)) (ak : Option Addr) (ag : Nat) (ab : List (S61)) (ah : Option Addr) (ai : Nat) (ad : List (S67)) (a1 : Int) (r : Bool) (w : World) (ao : Kd.C k61 w aj aa.length aa) (ap : aa.length ≤ af) (aq : Kd.C k61 w ak ab.length ab) (ar : ab.length ≤ ag) (au : Kd.C k67 w ah ad.length ad) (av : ad.length ≤ ai) (h : edit_Patch_leaves.f k aa ab ad a1 = some r) :
  Calls Try.prog 111 #[.agg #[.slice aj aa.length af, .slice ak ab.length ag, .slice ah ad.length ai], .int .i64 a1] w fun e w' => e = .returned (.bool r) ∧ Below w.heap.size w w' := by
 have hu28 := Try.underlying28
 have hu61 := Try.underlying61
 have am := zA ao
 have aw := zA ap
 clear ao ap
 have an := zA aq
 have ax := zA ar
 clear aq ar
 have ay := zA au
 have az := zA av
 clear au av
 have HB := zA (Below.refl w.heap.size w)
 have H : ((edit_Patch_kept.f k aa ab ad a1).bind fun t1196 => (if t1196 < 0 then (some true) else (if 0 ≤ t1196 then (if t1196 < (ab.length : Int) then ((edit_Note_place.f ((rd_T61 ab t1196).f0) ((rd_T61 ab t1196).f1) ((rd_T61 ab t1196).f2)).bind fun bt1198 => (if 0 ≤ a1 then (if a1 < (aa.length : Int) then ((edit_Note_place.f ((rd_T61 aa a1).f0) ((rd_T61 aa a1).f1) ((rd_T61 aa a1).f2)).bind fun bt1201 => (some (!(bt1198.1 == bt1201.1) || (!(bt1198.2 == bt1201.2))))) else (none)) else (none))) else (none)) else (none)))) = some r := h
 clear h
 replace H := Option.bind_eq_some_iff.mp H
 obtain ⟨t1196, A30, H⟩ := H
 replace H : (if t1196 < 0 then (some true) else (if 0 ≤ t1196 then (if t1196 < (ab.length : Int) then ((edit_Note_place.f ((rd_T61 ab t1196).f0) ((rd_T61 ab t1196).f1) ((rd_T61 ab t1196).f2)).bind fun bt1198 => (if 0 ≤ a1 then (if a1 < (aa.length : Int) then ((edit_Note_place.f ((rd_T61 aa a1).f0) ((rd_T61 aa a1).f1) ((rd_T61 aa a1).f2)).bind fun bt1201 => (some (!(bt1198.1 == bt1201.1) || (!(bt1198.2 == bt1201.2))))) else (none)) else (none))) else (none)) else (none))) = some r := H
 have A3 := zA A30
 clear A30
 by_cases c4 : t1196 < 0
 ·
  rw [if_pos c4] at H
  have c4b0 : decide (t1196 < 0) = true := decide_eq_true c4
  clear c4
  obtain rfl := Option.some.inj H
  go_enter Try.func111, Try.ntmps111
  try go_wp2_with (first | ((with_reducible refine gate_dst (N := 2) rfl ?_); refine box_event ?hg (N := 2) ?hd (cs := #[.slice aj aa.length af, .slice ak ab.length ag, .slice ah ad.length ai]) (t := 28) ?hr ?_; (case hd => rfl); (case hg => rfl); (case hr => first | (go_simp; done) | (go_simp; rfl)); intro ae hg w5 hbox hb; have ac := zA (hbox); have GW1195 := zA ((by rw [hg]; exact (below_size (zqA HB.out)) : w.heap.size ≤ ae)); have al := zA ((by rw [hg]; exact (below_size (zqA HB.out)) : w.heap.size ≤ ae)); replace HB := zA (below_step (zqA HB.out) hb); clear hb hbox hg; have hcz6_0 : w5.cell? ⟨ae, 0, none⟩ = some (.slice aj aa.length af) := (blk_cell ac.out 0).trans rfl; have hcz6_1 : w5.cell? ⟨ae, 1, none⟩ = some (.slice ak ab.length ag) := (blk_cell ac.out 1).trans rfl; have hcz6_2 : w5.cell? ⟨ae, 2, none⟩ = some (.slice ah ad.length ai) := (blk_cell ac.out 2).trans rfl; have hfz6_0 := blk_frozen ac.out 0; have hfz6_1 := blk_frozen ac.out 1; have hfz6_2 := blk_frozen ac.out 2) | ((with_reducible refine gate_callee (f := 68) rfl ?_); refine goesL_ (some 8) rfl rfl Try.func68 (by kernel_rfl) rfl #[.agg #[.slice aj aa.length af, .slice ak ab.length ag, .slice ah ad.length ai], .int .i64 a1] rfl zqE ?_; (with_reducible refine (edit_Patch_kept.calls k _ _ aa _ _ ab _ _ ad a1 t1196 _ ?side1 ?side2 ?side3 ?side4 ?side5 ?side6 A3.out).mono ?_); (case side1 => exact zqK (Kd.C_below am.out HB.out)); (case side2 => exact aw.out); (case side3 => exact zqK (Kd.C_below an.out HB.out)); (case side4 => exact ax.out); (case side5 => exact zqK (Kd.C_below ay.out HB.out)); (case side6 => exact az.out); rintro e w7 ⟨rfl, hb⟩; refine ⟨_, rfl, ?_⟩; replace ac := zA (blk_below (g := ae) (o := .cells #[.slice aj aa.length af, .slice ak ab.length ag, .slice ah ad.length ai] 28 (0, 0)) (zqB ac.out) hb); replace HB := zA (below_step (zqG HB.out al.out) hb); (try clear hb); (try clear hb2); (try clear hk); (try clear hi)))
  replace ac := zA (blk_drew ac.out)
  replace HB := zA (below_drew1 HB.out)
  refine start_ (n := 18) (S := fun w' => True) (ds := []) #[false, false, false, false, false, false, false, false, false, false, false, false, false, false, false, false, false, false] (by kernel_rfl) rfl rfl trivial (fun hHeld => ?_); refine with_tabW edit_Patch_leaves.tab2 edit_Patch_leaves.bits2 (fun HT_ HW_ => ?_)
  generalize w7.drew = w8 at ac HB hHeld ⊢
  refine pureQ 0 (some 9) HT_ ?_
  refine pureQ 1 (some 10) HT_ ?_
  refine pureQ 2 (some 11) HT_ ?_
  refine pure_ (i := 3) (N := some 12) (v := undef) (a' := ?_) #[true, true, true, true, false, false, false, false, false, false, false, false, false, false, false, false, false, false] rfl rfl (any_of HT_.out (by kernel_rfl)) (fun _ _ _ h => h) (Or.inr ⟨by rfl, rfl⟩) ?_ ?_
  rotate_left
  ·
   exact putQ
  refine pure_ (i := 4) (N := some 13) (v := undef) (a' := ?_) #[true, true, true, true, true, false, false, false, false, false, false, false, false, false, false, false, false, false] rfl rfl (any_of HT_.out (by kernel_rfl)) (fun _ _ _ h => h) (Or.inr ⟨by rfl, rfl⟩) ?_ ?_
  rotate_left
  ·
   exact putQ
  refine pure_ (i := 5) (N := some 14) (v := undef) (a' := ?_) #[true, true, true, true, true, true, false, false, false, false, false, false, false, false, false, false, false, false] rfl rfl (any_of HT_.out (by kernel_rfl)) (fun _ _ _ h => h) (Or.inr ⟨by rfl, rfl⟩) ?_ ?_
  rotate_left
  ·
   exact putQ
  refine pure_ (i := 6) (N := some 15) (v := undef) (a' := ?_) #[true, true, true, true, true, true, true, false, false, false, false, false, false, false, false, false, false, false] rfl rfl (any_of HT_.out (by kernel_rfl)) (fun _ _ _ h => h) (Or.inr ⟨by rfl, rfl⟩) ?_ ?_
  rotate_left
  ·
   exact putQ
  refine pure_ (i := 7) (N := some 16) (v := undef) (a' := ?_) #[true, true, true, true, true, true, true, true, false, false, false, false, false, false, false, false, false, false] rfl rfl (any_of HT_.out (by kernel_rfl)) (fun _ _ _ h => h) (Or.inr ⟨by rfl, rfl⟩) ?_ ?_
  rotate_left
  ·
   exact putQ
  refine pure_ (i := 8) (N := some 17) (v := undef) (a' := ?_) #[true, true, true, true, true, true, true, true, true, false, false, false, false, false, false, false, false, false] rfl rfl (any_of HT_.out (by kernel_rfl)) (fun _ _ _ h => h) (Or.inr ⟨by rfl, rfl⟩) ?_ ?_
  rotate_left
  ·
   exact putQ
  refine pure_ (i := 9) (N := some 18) (v := undef) (a' := ?_) #[true, true, true, true, true, true, true, true, true, true, false, false, false, false, false, false, false, false] rfl rfl (any_of HT_.out (by kernel_rfl)) (fun _ _ _ h => h) (Or.inr ⟨by rfl, rfl⟩) ?_ ?_
  rotate_left
  ·
   exact putQ
  refine pure_ (i := 10) (N := some 19) (v := undef) (a' := ?_) #[true, true, true, true, true, true, true, true, true, true, true, false, false, false, false, false, false, false] rfl rfl (any_of HT_.out (by kernel_rfl)) (fun _ _ _ h => h) (Or.inr ⟨by rfl, rfl⟩) ?_ ?_
  rotate_left
  ·
   exact putQ
  refine pure_ (i := 11) (N := some 20) (v := undef) (a' := ?_) #[true, true, true, true, true, true, true, true, true, true, true, true, false, false, false, false, false, false] rfl rfl (any_of HT_.out (by kernel_rfl)) (fun _ _ _ h => h) (Or.inr ⟨by rfl, rfl⟩) ?_ ?_
  rotate_left
  ·
   exact putQ
  refine pure_ (i := 12) (N := some 21) (v := undef) (a' := ?_) #[true, true, true, true, true, true, true, true, true, true, true, true, true, false, false, false, false, false] rfl rfl (any_of HT_.out (by kernel_rfl)) (fun _ _ _ h => h) (Or.inr ⟨by rfl, rfl⟩) ?_ ?_
  rotate_left
  ·
   exact putQ
  refine pure_ (i := 13) (N := some 22) (v := undef) (a' := ?_) #[true, true, true, true, true, true, true, true, true, true, true, true, true, true, false, false, false, false] rfl rfl (any_of HT_.out (by kernel_rfl)) (fun _ _ _ h => h) (Or.inr ⟨by rfl, rfl⟩) ?_ ?_
  rotate_left
  ·
   exact putQ
  refine pure_ (i := 14) (N := some 23) (v := undef) (a' := ?_) #[true, true, true, true, true, true, true, true, true, true, true, true, true, true, true, false, false, false] rfl rfl (any_of HT_.out (by kernel_rfl)) (fun _ _ _ h => h) (Or.inr ⟨by rfl, rfl⟩) ?_ ?_
  rotate_left
  ·
   exact putQ
  refine pure_ (i := 15) (N := some 24) (v := undef) (a' := ?_) #[true, true, true, true, true, true, true, true, true, true, true, true, true, true, true, true, false, false] rfl rfl (any_of HT_.out (by kernel_rfl)) (fun _ _ _ h => h) (Or.inr ⟨by rfl, rfl⟩) ?_ ?_
  rotate_left
  ·
   exact putQ
  refine pureQ 16 (some 25) HT_ ?_
  refine pureQ 17 (some 4) HT_ ?_
  refine done_ (done_of HT_.out (by kernel_rfl)) ?_
  try go_wp2
  go_ret
  exact ⟨zqR, zqG HB.out al.out⟩
 ·
  rw [if_neg c4] at H
  have c4b0 : decide (t1196 < 0) = false := decide_eq_false c4
  clear c4
  by_cases c9 : 0 ≤ t1196
  ·
   rw [if_pos c9] at H
   have c9b0 : decide (0 ≤ t1196) = true := decide_eq_true c9
   clear c9
   by_cases c10 : t1196 < (ab.length : Int)
   ·
    rw [if_pos c10] at H
    have c10b0 : decide (t1196 < (ab.length : Int)) = true := decide_eq_true c10
    clear c10
    replace H := Option.bind_eq_some_iff.mp H
    obtain ⟨⟨t1198, t1199⟩, A110, H⟩ := H
    replace H : (if 0 ≤ a1 then (if a1 < (aa.length : Int) then ((edit_Note_place.f ((rd_T61 aa a1).f0) ((rd_T61 aa a1).f1) ((rd_T61 aa a1).f2)).bind fun bt1201 => (some (!(t1198 == bt1201.1) || (!(t1199 == bt1201.2))))) else (none)) else (none)) = some r := H
    have A11 := zA A110
    clear A110
    by_cases c12 : 0 ≤ a1
    ·
     rw [if_pos c12] at H
     have c12b0 : decide (0 ≤ a1) = true := decide_eq_true c12
     clear c12
     by_cases c13 : a1 < (aa.length : Int)
     ·
      rw [if_pos c13] at H
      have c13b0 : decide (a1 < (aa.length : Int)) = true := decide_eq_true c13
      clear c13
      replace H := Option.bind_eq_some_iff.mp H
      obtain ⟨⟨t1201, t1202⟩, A140, H⟩ := H
      replace H : (some (!(t1198 == t1201) || (!(t1199 == t1202)))) = some r := H
      have A14 := zA A140
      clear A140
      obtain rfl := Option.some.inj H
      go_enter Try.func111, Try.ntmps111
      try go_wp2_with (first | ((with_reducible refine gate_dst (N := 2) rfl ?_); refine box_event ?hg (N := 2) ?hd (cs := #[.slice aj aa.length af, .slice ak ab.length ag, .slice ah ad.length ai]) (t := 28) ?hr ?_; (case hd => rfl); (case hg => rfl); (case hr => first | (go_simp; done) | (go_simp; rfl)); intro ae hg w15 hbox hb; have ac := zA (hbox); have GW1195 := zA ((by rw [hg]; exact (below_size (zqA HB.out)) : w.heap.size ≤ ae)); have al := zA ((by rw [hg]; exact (below_size (zqA HB.out)) : w.heap.size ≤ ae)); replace HB := zA (below_step (zqA HB.out) hb); clear hb hbox hg; have hcz16_0 : w15.cell? ⟨ae, 0, none⟩ = some (.slice aj aa.length af) := (blk_cell ac.out 0).trans rfl; have hcz16_1 : w15.cell? ⟨ae, 1, none⟩ = some (.slice ak ab.length ag) := (blk_cell ac.out 1).trans rfl; have hcz16_2 : w15.cell? ⟨ae, 2, none⟩ = some (.slice ah ad.length ai) := (blk_cell ac.out 2).trans rfl; have hfz16_0 := blk_frozen ac.out 0; have hfz16_1 := blk_frozen ac.out 1; have hfz16_2 := blk_frozen ac.out 2) | ((with_reducible refine gate_callee (f := 68) rfl ?_); refine goesL_ (some 8) rfl rfl Try.func68 (by kernel_rfl) rfl #[.agg #[.slice aj aa.length af, .slice ak ab.length ag, .slice ah ad.length ai], .int .i64 a1] rfl zqE ?_; (with_reducible refine (edit_Patch_kept.calls k _ _ aa _ _ ab _ _ ad a1 t1196 _ ?side1 ?side2 ?side3 ?side4 ?side5 ?side6 A3.out).mono ?_); (case side1 => exact zqK (Kd.C_below am.out HB.out)); (case side2 => exact aw.out); (case side3 => exact zqK (Kd.C_below an.out HB.out)); (case side4 => exact ax.out); (case side5 => exact zqK (Kd.C_below ay.out HB.out)); (case side6 => exact az.out); rintro e w17 ⟨rfl, hb⟩; refine ⟨_, rfl, ?_⟩; replace ac := zA (blk_below (g := ae) (o := .cells #[.slice aj aa.length af, .slice ak ab.length ag, .slice ah ad.length ai] 28 (0, 0)) (zqB ac.out) hb); replace HB := zA (below_step (zqG HB.out al.out) hb); (try clear hb); (try clear hb2); (try clear hk); (try clear hi)))
      replace ac := zA (blk_drew ac.out)
      replace HB := zA (below_drew1 HB.out)
      have p1197 : 0 ≤ (t1196 : Int) := of_decide_eq_true (zqD)
      have q1197 : t1196 < (ab.length : Int) := of_decide_eq_true (zqD)
      obtain ⟨ad1197, e1197, hx1197_0, hx1197_1, hx1197_2⟩ := at_T61 an.out t1196 p1197 q1197
      have hw1197_2 := hx1197_2; have hw1197_1 := hx1197_1; have hw1197_0 := hx1197_0; cases e1197
      replace hx1197_0 := (HB.out.cell (World.block_lt_of_cell? w _ hx1197_0)).trans hx1197_0
      replace hx1197_1 := (HB.out.cell (World.block_lt_of_cell? w _ hx1197_1)).trans hx1197_1
      replace hx1197_2 := (HB.out.cell (World.block_lt_of_cell? w _ hx1197_2)).trans hx1197_2
      replace p1197 := eq_true p1197; replace q1197 := eq_true q1197
      have p1200 : 0 ≤ (a1 : Int) := of_decide_eq_true (zqD)
      have q1200 : a1 < (aa.length : Int) := of_decide_eq_true (zqD)
      obtain ⟨ad1200, e1200, hx1200_0, hx1200_1, hx1200_2⟩ := at_T61 am.out a1 p1200 q1200
      have hw1200_2 := hx1200_2; have hw1200_1 := hx1200_1; have hw1200_0 := hx1200_0; cases e1200
      replace hx1200_0 := (HB.out.cell (World.block_lt_of_cell? w _ hx1200_0)).trans hx1200_0
      replace hx1200_1 := (HB.out.cell (World.block_lt_of_cell? w _ hx1200_1)).trans hx1200_1
      replace hx1200_2 := (HB.out.cell (World.block_lt_of_cell? w _ hx1200_2)).trans hx1200_2
      replace p1200 := eq_true p1200; replace q1200 := eq_true q1200
      refine start_ (n := 18) (S := fun w' => w'.cell? ⟨ae, 0, none⟩ = some (.slice (some ad1200) aa.length af) ∧ w'.cell? ⟨ae, 1, none⟩ = some (.slice (some ad1197) ab.length ag) ∧ w'.cell? ⟨ae, 2, none⟩ = some (.slice ah ad.length ai) ∧ w'.cell? (ad1197.add ((t1196).toNat * 3)) = some (.int .i64 ((rd_T61 ab t1196).f0)) ∧ w'.cell? ⟨(ad1197.add ((t1196).toNat * 3)).block, (ad1197.add ((t1196).toNat * 3)).off + 1, none⟩ = some (.int .i64 ((rd_T61 ab t1196).f1)) ∧ w'.cell? ⟨(ad1197.add ((t1196).toNat * 3)).block, (ad1197.add ((t1196).toNat * 3)).off + 2, none⟩ = some (.int .i64 ((rd_T61 ab t1196).f2)) ∧ w'.cell? (ad1200.add ((a1).toNat * 3)) = some (.int .i64 ((rd_T61 aa a1).f0)) ∧ w'.cell? ⟨(ad1200.add ((a1).toNat * 3)).block, (ad1200.add ((a1).toNat * 3)).off + 1, none⟩ = some (.int .i64 ((rd_T61 aa a1).f1)) ∧ w'.cell? ⟨(ad1200.add ((a1).toNat * 3)).block, (ad1200.add ((a1).toNat * 3)).off + 2, none⟩ = some (.int .i64 ((rd_T61 aa a1).f2))) (ds := []) #[false, false, false, false, false, false, false, false, false, false, false, false, false, false, false, false, false, false] (by kernel_rfl) rfl rfl ⟨(blk_cell ac.out 0).trans rfl, (blk_cell ac.out 1).trans rfl, (blk_cell ac.out 2).trans rfl, ((HB.out.cell (World.block_lt_of_cell? w _ hw1197_0)).trans hw1197_0), ((HB.out.cell (World.block_lt_of_cell? w _ hw1197_1)).trans hw1197_1), ((HB.out.cell (World.block_lt_of_cell? w _ hw1197_2)).trans hw1197_2), ((HB.out.cell (World.block_lt_of_cell? w _ hw1200_0)).trans hw1200_0), ((HB.out.cell (World.block_lt_of_cell? w _ hw1200_1)).trans hw1200_1), ((HB.out.cell (World.block_lt_of_cell? w _ hw1200_2)).trans hw1200_2)⟩ (fun hHeld => ?_); refine with_tabW edit_Patch_leaves.tab2 edit_Patch_leaves.bits2 (fun HT_ HW_ => ?_)
      generalize w17.drew = w18 at ac HB hx1197_0 hx1197_1 hx1197_2 hx1200_0 hx1200_1 hx1200_2 hHeld ⊢
      refine pureQ 0 (some 9) HT_ ?_
      refine pureQ 1 (some 10) HT_ ?_
      refine pureQ 2 (some 11) HT_ ?_
      refine pureQ 3 (some 12) HT_ ?_
      refine pureQ 5 (some 14) HT_ ?_
      refine pureQ 9 (some 18) HT_ ?_
      refine pureQ 11 (some 20) HT_ ?_
      refine takeQ (v := ?_) (a' := ?_) 4 (some 13) HT_ HW_ hHeld ?_ ?_ ?_
      rotate_left
      ·
       rintro w' ⟨s0, s1, s2, s3, s4, s5, s6, s7, s8⟩
       go_simp
       with_reducible rfl
      rotate_left
      ·
       exact putQ
      refine pureQ 6 (some 15) HT_ ?_
      refine takeQ (v := ?_) (a' := ?_) 7 (some 16) HT_ HW_ hHeld ?_ ?_ ?_
      rotate_left
      ·
       rintro w' ⟨s0, s1, s2, s3, s4, s5, s6, s7, s8⟩
       go_simp
       with_reducible rfl
      rotate_left
      ·
       exact putQ
      refine takeQ (v := ?_) (a' := ?_) 10 (some 19) HT_ HW_ hHeld ?_ ?_ ?_
      rotate_left
      ·
       rintro w' ⟨s0, s1, s2, s3, s4, s5, s6, s7, s8⟩
       go_simp
       with_reducible rfl
      rotate_left
      ·
       exact putQ
      refine pureQ 12 (some 21) HT_ ?_
      refine takeQ (v := ?_) (a' := ?_) 13 (some 22) HT_ HW_ hHeld ?_ ?_ ?_
      rotate_left
      ·
       rintro w' ⟨s0, s1, s2, s3, s4, s5, s6, s7, s8⟩
       go_simp
       with_reducible rfl
      rotate_left
      ·
       exact putQ
      refine one_ (i := 8) (N := some 17) #[true, true, true, true, true, true, true, true, true, true, true, true, true, true, false, false, false, false] rfl rfl (one_of HT_.out (by kernel_rfl)) (by decide) (fun K hK => ?_)
      refine goes_ Try.func52 (by kernel_rfl) rfl #[.agg #[.int .i64 ((rd_T61 ab t1196).f0), .int .i64 ((rd_T61 ab t1196).f1), .int .i64 ((rd_T61 ab t1196).f2)]] (by rfl) rfl rfl zqE ?_
      with_reducible refine (edit_Note_place.calls ((rd_T61 ab t1196).f0) ((rd_T61 ab t1196).f1) ((rd_T61 ab t1196).f2) t1198 t1199 _ A11.out).mono ?_
      rintro e w19 ⟨rfl, hb⟩
      refine ⟨_, rfl, ?_⟩
      replace ac := zA (blk_below (g := ae) (o := .cells #[.slice (some ad1200) aa.length af, .slice (some ad1197) ab.length ag, .slice ah ad.length ai] 28 (0, 0)) (zqB ac.out) hb)
      replace HB := zA (below_step (zqG HB.out al.out) hb)
      refine hK.out _ _ ⟨(blk_cell ac.out 0).trans rfl, (blk_cell ac.out 1).trans rfl, (blk_cell ac.out 2).trans rfl, ((HB.out.cell (World.block_lt_of_cell? w _ hw1197_0)).trans hw1197_0), ((HB.out.cell (World.block_lt_of_cell? w _ hw1197_1)).trans hw1197_1), ((HB.out.cell (World.block_lt_of_cell? w _ hw1197_2)).trans hw1197_2), ((HB.out.cell (World.block_lt_of_cell? w _ hw1200_0)).trans hw1200_0), ((HB.out.cell (World.block_lt_of_cell? w _ hw1200_1)).trans hw1200_1), ((HB.out.cell (World.block_lt_of_cell? w _ hw1200_2)).trans hw1200_2)⟩ (fun hHeld => ?_)
      clear hK K
      refine normQ ?_
      refine one_ (i := 14) (N := some 23) #[true, true, true, true, true, true, true, true, true, true, true, true, true, true, true, false, false, false] rfl rfl (one_of HT_.out (by kernel_rfl)) (by decide) (fun K hK => ?_)
      refine goes_ Try.func52 (by kernel_rfl) rfl #[.agg #[.int .i64 ((rd_T61 aa a1).f0), .int .i64 ((rd_T61 aa a1).f1), .int .i64 ((rd_T61 aa a1).f2)]] (by rfl) rfl rfl zqE ?_
      with_reducible refine (edit_Note_place.calls ((rd_T61 aa a1).f0) ((rd_T61 aa a1).f1) ((rd_T61 aa a1).f2) t1201 t1202 _ A14.out).mono ?_
      rintro e w20 ⟨rfl, hb⟩
      refine ⟨_, rfl, ?_⟩
      replace ac := zA (blk_below (g := ae) (o := .cells #[.slice (some ad1200) aa.length af, .slice (some ad1197) ab.length ag, .slice ah ad.length ai] 28 (0, 0)) (zqB ac.out) hb)
      replace HB := zA (below_step (zqG HB.out al.out) hb)
      refine hK.out _ _ ⟨(blk_cell ac.out 0).trans rfl, (blk_cell ac.out 1).trans rfl, (blk_cell ac.out 2).trans rfl, ((HB.out.cell (World.block_lt_of_cell? w _ hw1197_0)).trans hw1197_0), ((HB.out.cell (World.block_lt_of_cell? w _ hw1197_1)).trans hw1197_1), ((HB.out.cell (World.block_lt_of_cell? w _ hw1197_2)).trans hw1197_2), ((HB.out.cell (World.block_lt_of_cell? w _ hw1200_0)).trans hw1200_0), ((HB.out.cell (World.block_lt_of_cell? w _ hw1200_1)).trans hw1200_1), ((HB.out.cell (World.block_lt_of_cell? w _ hw1200_2)).trans hw1200_2)⟩ (fun hHeld => ?_)
      clear hK K
      refine normQ ?_
      refine pureQ 15 (some 24) HT_ ?_
      refine pureQ 16 (some 25) HT_ ?_
      refine pureQ 17 (some 4) HT_ ?_
      refine done_ (done_of HT_.out (by kernel_rfl)) ?_
      try go_wp2
      go_ret
      exact ⟨zqR, zqG HB.out al.out⟩
     ·
      rw [if_neg c13] at H
      exact absurd H (by simp)
    ·
     rw [if_neg c12] at H
     exact absurd H (by simp)
   ·
    rw [if_neg c10] at H
    exact absurd H (by simp)
  ·
   rw [if_neg c9] at H
   exact absurd H (by simp)
def edit_patchNote.f (a0 : Int) (a1_0 : Int) (a1_1 : Int) (a1_2 : Int) (a1_3 : Int) (a1_4 : Bool) (a1_5 : Int) (a1_6 : Bool) : Option (Int × Int × Int) := some (a1_0, a1_1, a1_2)
set_option maxHeartbeats 8000000 in
set_option maxRecDepth 100000 in
theorem edit_patchNote.calls (a0 : Int) (a1_0 : Int) (a1_1 : Int) (a1_2 : Int) (a1_3 : Int) (a1_4 : Bool) (a1_5 : Int) (a1_6 : Bool) (r1 : Int) (r2 : Int) (r3 : Int) (w : World) (h : edit_patchNote.f a0 a1_0 a1_1 a1_2 a1_3 a1_4 a1_5 a1_6 = some (r1, r2, r3)) :
  Calls Try.prog 88 #[.int .i64 a0, .agg #[.int .i64 a1_0, .int .i64 a1_1, .int .i64 a1_2, .int .i64 a1_3, .bool a1_4, .int .i64 a1_5, .bool a1_6]] w fun e w' => e = .returned (.agg #[.int .i64 r1, .int .i64 r2, .int .i64 r3]) ∧ Below w.heap.size w w' := by
 have hu108 := Try.underlying108
 have hu61 := Try.underlying61
 have HB := zA (Below.refl w.heap.size w)
 have H : (some (a1_0, a1_1, a1_2)) = some (r1, r2, r3) := h
 clear h
 simp only [Option.some.injEq, Prod.mk.injEq] at H
 obtain ⟨rfl, rfl, rfl⟩ := H
 go_enter Try.func88, Try.ntmps88
 go_wp2_with (first | ((with_reducible refine gate_dst (N := 3) rfl ?_); refine box_event ?hg (N := 3) ?hd (cs := #[.int .i64 a1_0, .int .i64 a1_1, .int .i64 a1_2, .int .i64 a1_3, .bool a1_4, .int .i64 a1_5, .bool a1_6]) (t := 108) ?hr ?_; (case hd => rfl); (case hg => rfl); (case hr => first | (go_simp; done) | (go_simp; rfl)); intro ab hg w3 hbox hb; have aa := zA (hbox); have GW1210 := zA ((by rw [hg]; exact (below_size (zqA HB.out)) : w.heap.size ≤ ab)); have ae := zA ((by rw [hg]; exact (below_size (zqA HB.out)) : w.heap.size ≤ ab)); replace HB := zA (below_step (zqA HB.out) hb); clear hb hbox hg) | ((with_reducible refine gate_dst (N := 4) rfl ?_); refine box_event ?hg (N := 4) ?hd (cs := #[.int .i64 0, .int .i64 0, .int .i64 0]) (t := 61) ?hr ?_; (case hd => rfl); (case hg => rfl); (case hr => first | (go_simp; done) | (go_simp; rfl)); intro ac hg w4 hbox hb; have ad := zA (hbox); have GW1211 := zA ((by rw [hg]; exact (below_size (zqG HB.out ae.out)) : w.heap.size ≤ ac)); have GE1211 := zA ((by rw [hg]; exact (below_size (zqG HB.out ae.out)) : w.heap.size ≤ ac)); replace HB := zA (below_step (zqG HB.out ae.out) hb); have NB1210_1211 := zA ((by rw [hg]; exact Nat.ne_of_lt (blk_lt (g := ab) (o := .cells #[.int .i64 a1_0, .int .i64 a1_1, .int .i64 a1_2, .int .i64 a1_3, .bool a1_4, .int .i64 a1_5, .bool a1_6] 108 (0, 0)) (zqB aa.out)) : ab ≠ ac)); have NB1211_1210 := zA ((by rw [hg]; exact Nat.ne_of_gt (blk_lt (g := ab) (o := .cells #[.int .i64 a1_0, .int .i64 a1_1, .int .i64 a1_2, .int .i64 a1_3, .bool a1_4, .int .i64 a1_5, .bool a1_6] 108 (0, 0)) (zqB aa.out)) : ac ≠ ab)); replace aa := zA (blk_below (g := ab) (o := .cells #[.int .i64 a1_0, .int .i64 a1_1, .int .i64 a1_2, .int .i64 a1_3, .bool a1_4, .int .i64 a1_5, .bool a1_6] 108 (0, 0)) (zqB aa.out) hb); clear hb hbox hg; have hnb5 := NB1210_1211.out; have hnc5 := NB1211_1210.out; have hcz6_0 : w4.cell? ⟨ab, 0, none⟩ = some (.int .i64 a1_0) := (blk_cell aa.out 0).trans rfl; have hcz6_1 : w4.cell? ⟨ab, 1, none⟩ = some (.int .i64 a1_1) := (blk_cell aa.out 1).trans rfl; have hcz6_2 : w4.cell? ⟨ab, 2, none⟩ = some (.int .i64 a1_2) := (blk_cell aa.out 2).trans rfl; have hcz6_3 : w4.cell? ⟨ab, 3, none⟩ = some (.int .i64 a1_3) := (blk_cell aa.out 3).trans rfl; have hcz6_4 : w4.cell? ⟨ab, 4, none⟩ = some (.bool a1_4) := (blk_cell aa.out 4).trans rfl; have hcz6_5 : w4.cell? ⟨ab, 5, none⟩ = some (.int .i64 a1_5) := (blk_cell aa.out 5).trans rfl; have hcz6_6 : w4.cell? ⟨ab, 6, none⟩ = some (.bool a1_6) := (blk_cell aa.out 6).trans rfl; have hfz6_0 := blk_frozen aa.out 0; have hfz6_1 := blk_frozen aa.out 1; have hfz6_2 := blk_frozen aa.out 2; have hfz6_3 := blk_frozen aa.out 3; have hfz6_4 := blk_frozen aa.out 4; have hfz6_5 := blk_frozen aa.out 5; have hfz6_6 := blk_frozen aa.out 6; have hcz7_0 : w4.cell? ⟨ac, 0, none⟩ = some (.int .i64 0) := (blk_cell ad.out 0).trans rfl; have hcz7_1 : w4.cell? ⟨ac, 1, none⟩ = some (.int .i64 0) := (blk_cell ad.out 1).trans rfl; have hcz7_2 : w4.cell? ⟨ac, 2, none⟩ = some (.int .i64 0) := (blk_cell ad.out 2).trans rfl; have hfz7_0 := blk_frozen ad.out 0; have hfz7_1 := blk_frozen ad.out 1; have hfz7_2 := blk_frozen ad.out 2))
 refine bodyPost_ret (results_cell_row rfl _ _ ac 61 #[.int .i64 a1_0, .int .i64 a1_1, .int .i64 a1_2] (0, 0) _ rfl (by (with_reducible repeat (first | refine blk_drewN ?_ _ | refine blk_drew ?_ | refine blk_alloc ?_ _)); refine blk_put (cs := #[.int .i64 a1_0, .int .i64 a1_1, .int .i64 0]) ?_ 2 _ rfl; (with_reducible repeat (first | refine blk_drewN ?_ _ | refine blk_drew ?_ | refine blk_alloc ?_ _)); refine blk_put (cs := #[.int .i64 a1_0, .int .i64 0, .int .i64 0]) ?_ 1 _ rfl; (with_reducible repeat (first | refine blk_drewN ?_ _ | refine blk_drew ?_ | refine blk_alloc ?_ _)); refine blk_put (cs := #[.int .i64 0, .int .i64 0, .int .i64 0]) ?_ 0 _ rfl; (with_reducible repeat (first | refine blk_drewN ?_ _ | refine blk_drew ?_ | refine blk_alloc ?_ _)); exact ad.out) Try.underlying61 rfl (by kernel_rfl)) rfl ?_
 exact ⟨zqR, zqH HB.out ae.out GE1211.out⟩
def edit_patchOrigin.f (a0 : Int) (a1_0 : Int) (a1_1 : Int) (a1_2 : Int) (a1_3 : Int) (a1_4 : Bool) (a1_5 : Int) (a1_6 : Bool) : Option (Int × Bool) := some (a1_3, a1_4)
set_option maxHeartbeats 8000000 in
set_option maxRecDepth 100000 in
theorem edit_patchOrigin.calls (a0 : Int) (a1_0 : Int) (a1_1 : Int) (a1_2 : Int) (a1_3 : Int) (a1_4 : Bool) (a1_5 : Int) (a1_6 : Bool) (r1 : Int) (r2 : Bool) (w : World) (h : edit_patchOrigin.f a0 a1_0 a1_1 a1_2 a1_3 a1_4 a1_5 a1_6 = some (r1, r2)) :
  Calls Try.prog 90 #[.int .i64 a0, .agg #[.int .i64 a1_0, .int .i64 a1_1, .int .i64 a1_2, .int .i64 a1_3, .bool a1_4, .int .i64 a1_5, .bool a1_6]] w fun e w' => e = .returned (.agg #[.int .i64 r1, .bool r2]) ∧ Below w.heap.size w w' := by
 have hu108 := Try.underlying108
 have hu67 := Try.underlying67
 have HB := zA (Below.refl w.heap.size w)
 have H : (some (a1_3, a1_4)) = some (r1, r2) := h
 clear h
 simp only [Option.some.injEq, Prod.mk.injEq] at H
 obtain ⟨rfl, rfl⟩ := H
 go_enter Try.func90, Try.ntmps90
 go_wp2_with (first | ((with_reducible refine gate_dst (N := 3) rfl ?_); refine box_event ?hg (N := 3) ?hd (cs := #[.int .i64 a1_0, .int .i64 a1_1, .int .i64 a1_2, .int .i64 a1_3, .bool a1_4, .int .i64 a1_5, .bool a1_6]) (t := 108) ?hr ?_; (case hd => rfl); (case hg => rfl); (case hr => first | (go_simp; done) | (go_simp; rfl)); intro ab hg w3 hbox hb; have aa := zA (hbox); have GW1212 := zA ((by rw [hg]; exact (below_size (zqA HB.out)) : w.heap.size ≤ ab)); have ae := zA ((by rw [hg]; exact (below_size (zqA HB.out)) : w.heap.size ≤ ab)); replace HB := zA (below_step (zqA HB.out) hb); clear hb hbox hg) | ((with_reducible refine gate_dst (N := 4) rfl ?_); refine box_event ?hg (N := 4) ?hd (cs := #[.int .i64 0, .bool false]) (t := 67) ?hr ?_; (case hd => rfl); (case hg => rfl); (case hr => first | (go_simp; done) | (go_simp; rfl)); intro ac hg w4 hbox hb; have ad := zA (hbox); have GW1213 := zA ((by rw [hg]; exact (below_size (zqG HB.out ae.out)) : w.heap.size ≤ ac)); have GE1213 := zA ((by rw [hg]; exact (below_size (zqG HB.out ae.out)) : w.heap.size ≤ ac)); replace HB := zA (below_step (zqG HB.out ae.out) hb); have NB1212_1213 := zA ((by rw [hg]; exact Nat.ne_of_lt (blk_lt (g := ab) (o := .cells #[.int .i64 a1_0, .int .i64 a1_1, .int .i64 a1_2, .int .i64 a1_3, .bool a1_4, .int .i64 a1_5, .bool a1_6] 108 (0, 0)) (zqB aa.out)) : ab ≠ ac)); have NB1213_1212 := zA ((by rw [hg]; exact Nat.ne_of_gt (blk_lt (g := ab) (o := .cells #[.int .i64 a1_0, .int .i64 a1_1, .int .i64 a1_2, .int .i64 a1_3, .bool a1_4, .int .i64 a1_5, .bool a1_6] 108 (0, 0)) (zqB aa.out)) : ac ≠ ab)); replace aa := zA (blk_below (g := ab) (o := .cells #[.int .i64 a1_0, .int .i64 a1_1, .int .i64 a1_2, .int .i64 a1_3, .bool a1_4, .int .i64 a1_5, .bool a1_6] 108 (0, 0)) (zqB aa.out) hb); clear hb hbox hg; have hnb5 := NB1212_1213.out; have hnc5 := NB1213_1212.out; have hcz6_0 : w4.cell? ⟨ab, 0, none⟩ = some (.int .i64 a1_0) := (blk_cell aa.out 0).trans rfl; have hcz6_1 : w4.cell? ⟨ab, 1, none⟩ = some (.int .i64 a1_1) := (blk_cell aa.out 1).trans rfl; have hcz6_2 : w4.cell? ⟨ab, 2, none⟩ = some (.int .i64 a1_2) := (blk_cell aa.out 2).trans rfl; have hcz6_3 : w4.cell? ⟨ab, 3, none⟩ = some (.int .i64 a1_3) := (blk_cell aa.out 3).trans rfl; have hcz6_4 : w4.cell? ⟨ab, 4, none⟩ = some (.bool a1_4) := (blk_cell aa.out 4).trans rfl; have hcz6_5 : w4.cell? ⟨ab, 5, none⟩ = some (.int .i64 a1_5) := (blk_cell aa.out 5).trans rfl; have hcz6_6 : w4.cell? ⟨ab, 6, none⟩ = some (.bool a1_6) := (blk_cell aa.out 6).trans rfl; have hfz6_0 := blk_frozen aa.out 0; have hfz6_1 := blk_frozen aa.out 1; have hfz6_2 := blk_frozen aa.out 2; have hfz6_3 := blk_frozen aa.out 3; have hfz6_4 := blk_frozen aa.out 4; have hfz6_5 := blk_frozen aa.out 5; have hfz6_6 := blk_frozen aa.out 6; have hcz7_0 : w4.cell? ⟨ac, 0, none⟩ = some (.int .i64 0) := (blk_cell ad.out 0).trans rfl; have hcz7_1 : w4.cell? ⟨ac, 1, none⟩ = some (.bool false) := (blk_cell ad.out 1).trans rfl; have hfz7_0 := blk_frozen ad.out 0; have hfz7_1 := blk_frozen ad.out 1))
 refine bodyPost_ret (results_cell_row rfl _ _ ac 67 #[.int .i64 a1_3, .bool a1_4] (0, 0) _ rfl (by (with_reducible repeat (first | refine blk_drewN ?_ _ | refine blk_drew ?_ | refine blk_alloc ?_ _)); refine blk_put (cs := #[.int .i64 a1_3, .bool false]) ?_ 1 _ rfl; (with_reducible repeat (first | refine blk_drewN ?_ _ | refine blk_drew ?_ | refine blk_alloc ?_ _)); refine blk_put (cs := #[.int .i64 0, .bool false]) ?_ 0 _ rfl; (with_reducible repeat (first | refine blk_drewN ?_ _ | refine blk_drew ?_ | refine blk_alloc ?_ _)); exact ad.out) Try.underlying67 rfl (by kernel_rfl)) rfl ?_
 exact ⟨zqR, zqH HB.out ae.out GE1213.out⟩
def pianolalaw02_origins.l0 : Nat → List Int → List (S67) → Int → Option ((List (S67)))
  | 0, _, _, _ => none
  | k + 1, x0, x3, x4 => if x4 < (x0.length : Int) then (if 0 ≤ x4 then (if (rd x0 x4) ≥ 100 then (if x3.length < 8796093022208 then (pianolalaw02_origins.l0 k x0 (x3 ++ [(⟨wrap64 ((rd x0 x4) - 100), true⟩ : S67)]) (wrap64 (x4 + 1))) else (none)) else (if x3.length < 8796093022208 then (pianolalaw02_origins.l0 k x0 (x3 ++ [(⟨rd x0 x4, false⟩ : S67)]) (wrap64 (x4 + 1))) else (none))) else (none)) else (some x3)
def pianolalaw02_origins.f (k : Nat) (l0 : List Int) : Option ((List (S67))) := pianolalaw02_origins.l0 k l0 ([] : List (S67)) 0
set_option maxHeartbeats 8000000 in
set_option maxRecDepth 100000 in
theorem pianolalaw02_origins.calls (k : Nat) (A0 : Option Addr) (c0 : Nat) (l0 : List Int) (r : List (S67)) (w : World) (ai : Kd.C (Kd.int .i64) w A0 l0.length l0) (hc0 : l0.length ≤ c0) (h : pianolalaw02_origins.f k l0 = some r) :
  Calls Try.prog 44 #[.slice A0 l0.length c0] w fun e w' => ∃ v0_ : Value, e = .returned (v0_) ∧ Kd.R k67 67 w' w.heap.size (fun _ => True) v0_ r ∧ Below w.heap.size w w' := by
 have hu67 := Try.underlying67
 have af := zA ai
 have HC0 := zA hc0
 clear ai hc0
 have HB := zA (Below.refl w.heap.size w)
 have H : (pianolalaw02_origins.l0 k l0 ([] : List (S67)) 0) = some r := h
 clear h
 have H' := zA H
 clear H
 go_enter Try.func44, Try.ntmps44
 go_wp2
 go_loopg [3, 4] k (fun kq v3 v4 w' => ∃ (x3_1 : List (S67)) (x4_1 : Int), v4 = .int .i64 x4_1 ∧ Aside0 (pianolalaw02_origins.l0 kq l0 x3_1 x4_1 = some r) ∧ Aside0 (kq ≤ k) ∧ Aside0 (Kd.R k67 67 w' w.heap.size (fun _ => True) v3 x3_1) ∧ Aside0 (Below w.heap.size w w'))
 case atStart => exact ⟨(([] : List (S67))), (0), zqQ, H', ⟨Nat.le_refl _⟩, ⟨by first | exact Kd.R_nil _ _ _ _ _ | exact Kd.N_nil _ _ _ _ _ | exact Kd.V_nil _ _ _ _ _ | exact Kd.Q_nil _ _ _ _ _ | exact Kd.S_nil _ _ _ _ _⟩, ⟨zqA HB.out⟩⟩
 case round =>
  clear H'
  obtain ⟨x3_1, x4_1, rfl, HA, HK1, ac, HB⟩ := hrel
  cases gk with
  | zero => exact absurd HA.out (by simp [pianolalaw02_origins.l0])
  | succ k1 =>
   have H := HA.out
   clear HA
   simp only [pianolalaw02_origins.l0] at H
   by_cases c2 : x4_1 < (l0.length : Int)
   ·
    rw [if_pos c2] at H
    have c2b0 : decide (x4_1 < (l0.length : Int)) = true := decide_eq_true c2
    clear c2
    by_cases c3 : 0 ≤ x4_1
    ·
     rw [if_pos c3] at H
     have c3b0 : decide (0 ≤ x4_1) = true := decide_eq_true c3
     clear c3
     by_cases c4 : (rd l0 x4_1) ≥ 100
     ·
      rw [if_pos c4] at H
      have c4b0 : decide (100 ≤ (rd l0 x4_1)) = true := decide_eq_true c4
      clear c4
      by_cases c5 : x3_1.length < 8796093022208
      ·
       rw [if_pos c5] at H
       have LMc5 := zA c5
       clear c5
       obtain ⟨y1218, ag⟩ : ∃ y_ : List (S67), y_ = (x3_1 ++ [(⟨wrap64 ((rd l0 x4_1) - 100), true⟩ : S67)]) := ⟨_, rfl⟩
       replace H : (pianolalaw02_origins.l0 k1 l0 y1218 (wrap64 (x4_1 + 1))) = some r := zqF ag H
       have Ny1218 := zA ag
       clear ag
       have H' := zA H
       clear H
       have p1214 : 0 ≤ (x4_1 : Int) := of_decide_eq_true (zqD)
       have q1214 : x4_1 < (l0.length : Int) := of_decide_eq_true (zqD)
       obtain ⟨ad1214, e1214, hx1214_0⟩ := Kd.at_int af.out x4_1 p1214 q1214
       cases e1214
       replace hx1214_0 := (HB.out.cell (World.block_lt_of_cell? w _ hx1214_0)).trans hx1214_0
       replace p1214 := eq_true p1214; replace q1214 := eq_true q1214
       go_upto_region 8 with (first | ((with_reducible refine gate_dst (N := 5) rfl ?_); refine box_event ?hg (N := 5) ?hd (cs := #[.int .i64 0, .bool false]) (t := 67) ?hr ?_; (case hd => rfl); (case hg => rfl); (case hr => first | (go_simp; done) | (go_simp; rfl)); intro aa hg w6 hbox hb; replace ac := zA (Kd.R_below (Kd.R_elderB (zqC ac.out) aa (Nat.le_of_eq hg.symm)) hb); have ab := zA (hbox); have ae := zA ((by rw [hg]; exact (below_size (zqA HB.out)) : w.heap.size ≤ aa)); have ad := zA ((by rw [hg]; exact (below_size (zqA HB.out)) : w.heap.size ≤ aa)); replace HB := zA (below_step (zqA HB.out) hb); clear hb hbox hg; have hcz7_0 : w6.cell? ⟨aa, 0, none⟩ = some (.int .i64 0) := (blk_cell ab.out 0).trans rfl; have hcz7_1 : w6.cell? ⟨aa, 1, none⟩ = some (.bool false) := (blk_cell ab.out 1).trans rfl; have hfz7_0 := blk_frozen ab.out 0; have hfz7_1 := blk_frozen ab.out 1; have p1216 : 0 ≤ (x4_1 : Int) := of_decide_eq_true (zqD); have q1216 : x4_1 < (l0.length : Int) := of_decide_eq_true (zqD); obtain ⟨ad1216, e1216, hx1216_0⟩ := Kd.at_int af.out x4_1 p1216 q1216; obtain rfl : ad1214 = ad1216 := (by injection e1216); have hn1216_0 : ad1214.block ≠ aa := Nat.ne_of_lt (Nat.lt_of_lt_of_le (by have := World.block_lt_of_cell? _ _ hx1216_0; first | rwa [add_block] at this | exact this) ae.out); have hn1216_1 : ad1214.block ≠ aa := Nat.ne_of_lt (Nat.lt_of_lt_of_le (by have := World.block_lt_of_cell? _ _ hx1216_0; first | rwa [add_block] at this | exact this) ae.out); replace hx1216_0 := (HB.out.cell (World.block_lt_of_cell? w _ hx1216_0)).trans hx1216_0; replace hx1216_0 := (cell_far (p := ⟨aa, 0, none⟩) (by first | (rw [add_block]; exact hn1216_0) | (show (Addr.add _ _).block ≠ _; rw [add_block]; exact hn1216_0) | exact hn1216_0) (.int .i64 (rd l0 x4_1))).trans hx1216_0; replace hx1216_0 := (cell_far (p := ⟨aa, 1, none⟩) (by first | (rw [add_block]; exact hn1216_1) | (show (Addr.add _ _).block ≠ _; rw [add_block]; exact hn1216_1) | exact hn1216_1) (.bool false)).trans hx1216_0; clear hn1216_0; clear hn1216_1; replace p1216 := eq_true p1216; replace q1216 := eq_true q1216; have p1217 : 0 ≤ (x4_1 : Int) := of_decide_eq_true (zqD); have q1217 : x4_1 < (l0.length : Int) := of_decide_eq_true (zqD); obtain ⟨ad1217, e1217, hx1217_0⟩ := Kd.at_int af.out x4_1 p1217 q1217; obtain rfl : ad1214 = ad1217 := (by injection e1217); have hn1217_0 : ad1214.block ≠ aa := Nat.ne_of_lt (Nat.lt_of_lt_of_le (by have := World.block_lt_of_cell? _ _ hx1217_0; first | rwa [add_block] at this | exact this) ae.out); have hn1217_1 : ad1214.block ≠ aa := Nat.ne_of_lt (Nat.lt_of_lt_of_le (by have := World.block_lt_of_cell? _ _ hx1217_0; first | rwa [add_block] at this | exact this) ae.out); replace hx1217_0 := (HB.out.cell (World.block_lt_of_cell? w _ hx1217_0)).trans hx1217_0; replace hx1217_0 := (cell_far (p := ⟨aa, 0, none⟩) (by first | (rw [add_block]; exact hn1217_0) | (show (Addr.add _ _).block ≠ _; rw [add_block]; exact hn1217_0) | exact hn1217_0) (.int .i64 (rd l0 x4_1))).trans hx1217_0; replace hx1217_0 := (cell_far (p := ⟨aa, 1, none⟩) (by first | (rw [add_block]; exact hn1217_1) | (show (Addr.add _ _).block ≠ _; rw [add_block]; exact hn1217_1) | exact hn1217_1) (.bool false)).trans hx1217_0; clear hn1217_0; clear hn1217_1; replace p1217 := eq_true p1217; replace q1217 := eq_true q1217))
       have n0_ : Aside0 (Kd.R k67 67 ((((w6.setCell ⟨aa, 0, none⟩ (.int .i64 (rd l0 x4_1))).setCell ⟨aa, 1, none⟩ (.bool false)).setCell ⟨aa, 0, none⟩ (.int .i64 (wrap64 ((rd l0 x4_1) - 100)))).setCell ⟨aa, 1, none⟩ (.bool true)) w.heap.size (fun k_ => k_ ≠ aa) u3 x3_1) := ⟨Kd.R_mono (Kd.R_far (p := ⟨aa, 1, none⟩) (Kd.R_far (p := ⟨aa, 0, none⟩) (Kd.R_far (p := ⟨aa, 1, none⟩) (Kd.R_far (p := ⟨aa, 0, none⟩) (Kd.R_mono ac.out (fun k_ hk => (⟨hk, hk.2⟩ : _ ∧ k_ ≠ aa))) (fun _ hk => hk.2) (.int .i64 (rd l0 x4_1))) (fun _ hk => hk.2) (.bool false)) (fun _ hk => hk.2) (.int .i64 (wrap64 ((rd l0 x4_1) - 100)))) (fun _ hk => hk.2) (.bool true)) (fun _ hk => hk.1.2)⟩
       have n1_ : Aside0 (Below w.heap.size w ((((w6.setCell ⟨aa, 0, none⟩ (.int .i64 (rd l0 x4_1))).setCell ⟨aa, 1, none⟩ (.bool false)).setCell ⟨aa, 0, none⟩ (.int .i64 (wrap64 ((rd l0 x4_1) - 100)))).setCell ⟨aa, 1, none⟩ (.bool true))) := ⟨(zqG HB.out ad.out)⟩
       have n2_ : Aside0 (((((w6.setCell ⟨aa, 0, none⟩ (.int .i64 (rd l0 x4_1))).setCell ⟨aa, 1, none⟩ (.bool false)).setCell ⟨aa, 0, none⟩ (.int .i64 (wrap64 ((rd l0 x4_1) - 100)))).setCell ⟨aa, 1, none⟩ (.bool true)).heap[aa]? = some (.cells #[.int .i64 (wrap64 ((rd l0 x4_1) - 100)), .bool true] 67 (0, 0))) := ⟨(by (with_reducible repeat (first | refine blk_drewN ?_ _ | refine blk_drew ?_ | refine blk_alloc ?_ _)); refine blk_put (cs := #[.int .i64 (wrap64 ((rd l0 x4_1) - 100)), .bool false]) ?_ 1 _ rfl; (with_reducible repeat (first | refine blk_drewN ?_ _ | refine blk_drew ?_ | refine blk_alloc ?_ _)); refine blk_put (cs := #[.int .i64 (rd l0 x4_1), .bool false]) ?_ 0 _ rfl; (with_reducible repeat (first | refine blk_drewN ?_ _ | refine blk_drew ?_ | refine blk_alloc ?_ _)); refine blk_put (cs := #[.int .i64 (rd l0 x4_1), .bool false]) ?_ 1 _ rfl; (with_reducible repeat (first | refine blk_drewN ?_ _ | refine blk_drew ?_ | refine blk_alloc ?_ _)); refine blk_put (cs := #[.int .i64 0, .bool false]) ?_ 0 _ rfl; (with_reducible repeat (first | refine blk_drewN ?_ _ | refine blk_drew ?_ | refine blk_alloc ?_ _)); exact ab.out)⟩
       clear ac HB ab; generalize (((w6.setCell ⟨aa, 0, none⟩ (.int .i64 (rd l0 x4_1))).setCell ⟨aa, 1, none⟩ (.bool false)).setCell ⟨aa, 0, none⟩ (.int .i64 (wrap64 ((rd l0 x4_1) - 100)))).setCell ⟨aa, 1, none⟩ (.bool true) = w99 at n0_ n1_ n2_ ⊢; have ac := n0_; have HB := n1_; have ab := n2_; clear n0_ n1_ n2_
       have hz0 : w99.cell? ⟨aa, 0, none⟩ = some (.int .i64 (wrap64 ((rd l0 x4_1) - 100))) := (blk_cell ab.out 0).trans rfl
       have hz1 : w99.cell? ⟨aa, 1, none⟩ = some (.bool true) := (blk_cell ab.out 1).trans rfl
       go_wp2_with (first | ((with_reducible refine gate_builtin (b := .append) (xs := #[.tmp 28, .tmp 30]) rfl ?_); at_builtin; refine Kd.R_append k67 (w0 := w) w.heap.size rfl (.tmp 28) (.tmp 30) 26 67 (.agg #[(.int .i64 0), (.bool false)]) 16 rfl Try.underlying26 info67 rfl (by decide) (by omega) u3 x3_1 (⟨wrap64 ((rd l0 x4_1) - 100), true⟩ : S67) [.int .i64 (wrap64 ((rd l0 x4_1) - 100)), .bool true] (fun k_ => k_ ≠ aa) (fun _ => False) rfl (by first | (go_simp; done) | (go_simp; rfl)) ?aP (fun _ hk => hk.elim) ?aF ?aO ?aB ?aS ?aL ?_; (case aP => exact k67_mkM _ _ _ (⟨wrap64 ((rd l0 x4_1) - 100), true⟩ : S67)); (case aB => exact (zqG HB.out ad.out)); (case aF => exact (fun k_ hk => Kd.freshB (g := aa) (o := .cells #[.int .i64 (wrap64 ((rd l0 x4_1) - 100)), .bool true] 67 (0, 0)) (zqB ab.out) k_ hk)); (case aO => exact (zqC ac.out)); (case aS => exact (below_size (zqG HB.out ad.out))); (case aL => have := LMc5.out; omega); intro v1219 w8 ho hb hg hat; rw [← Ny1218.out] at ho; replace ab := zA (blk_grown (g := aa) (o := .cells #[.int .i64 (wrap64 ((rd l0 x4_1) - 100)), .bool true] 67 (0, 0)) (zqB ab.out) hg (Kd.R_away ac.out (fun _ hk => hk))); replace HB := zA (hb); have HO1220 := zA (ho); clear ac; clear ho hb hg hat))
       go_roundg k1
       case measure => have := HK1.out; omega
       case rel => exact ⟨(y1218), (wrap64 (x4_1 + 1)), zqQ, H', ⟨by have := HK1.out; omega⟩, ⟨by (with_reducible repeat (first | apply Kd.R_alloc | apply Kd.R_drewN | apply Kd.R_drew)); exact Kd.R_mono HO1220.out (fun _ hk => trivial)⟩, ⟨zqG HB.out ad.out⟩⟩
      ·
       rw [if_neg c5] at H
       exact absurd H (by simp)
     ·
      rw [if_neg c4] at H
      have c4b0 : decide (100 ≤ (rd l0 x4_1)) = false := decide_eq_false c4
      clear c4
      by_cases c9 : x3_1.length < 8796093022208
      ·
       rw [if_pos c9] at H
       have LMc9 := zA c9
       clear c9
       obtain ⟨y1221, ah⟩ : ∃ y_ : List (S67), y_ = (x3_1 ++ [(⟨rd l0 x4_1, false⟩ : S67)]) := ⟨_, rfl⟩
       replace H : (pianolalaw02_origins.l0 k1 l0 y1221 (wrap64 (x4_1 + 1))) = some r := zqF ah H
       have Ny1221 := zA ah
       clear ah
       have H' := zA H
       clear H
       have p1214 : 0 ≤ (x4_1 : Int) := of_decide_eq_true (zqD)
       have q1214 : x4_1 < (l0.length : Int) := of_decide_eq_true (zqD)
       obtain ⟨ad1214, e1214, hx1214_0⟩ := Kd.at_int af.out x4_1 p1214 q1214
       cases e1214
       replace hx1214_0 := (HB.out.cell (World.block_lt_of_cell? w _ hx1214_0)).trans hx1214_0
       replace p1214 := eq_true p1214; replace q1214 := eq_true q1214
       go_wp2_with (first | ((with_reducible refine gate_dst (N := 5) rfl ?_); refine box_event ?hg (N := 5) ?hd (cs := #[.int .i64 0, .bool false]) (t := 67) ?hr ?_; (case hd => rfl); (case hg => rfl); (case hr => first | (go_simp; done) | (go_simp; rfl)); intro aa hg w10 hbox hb; replace ac := zA (Kd.R_below (Kd.R_elderB (zqC ac.out) aa (Nat.le_of_eq hg.symm)) hb); have ab := zA (hbox); have ae := zA ((by rw [hg]; exact (below_size (zqA HB.out)) : w.heap.size ≤ aa)); have ad := zA ((by rw [hg]; exact (below_size (zqA HB.out)) : w.heap.size ≤ aa)); replace HB := zA (below_step (zqA HB.out) hb); clear hb hbox hg; have hcz11_0 : w10.cell? ⟨aa, 0, none⟩ = some (.int .i64 0) := (blk_cell ab.out 0).trans rfl; have hcz11_1 : w10.cell? ⟨aa, 1, none⟩ = some (.bool false) := (blk_cell ab.out 1).trans rfl; have hfz11_0 := blk_frozen ab.out 0; have hfz11_1 := blk_frozen ab.out 1; have p1216 : 0 ≤ (x4_1 : Int) := of_decide_eq_true (zqD); have q1216 : x4_1 < (l0.length : Int) := of_decide_eq_true (zqD); obtain ⟨ad1216, e1216, hx1216_0⟩ := Kd.at_int af.out x4_1 p1216 q1216; obtain rfl : ad1214 = ad1216 := (by injection e1216); have hn1216_0 : ad1214.block ≠ aa := Nat.ne_of_lt (Nat.lt_of_lt_of_le (by have := World.block_lt_of_cell? _ _ hx1216_0; first | rwa [add_block] at this | exact this) ae.out); have hn1216_1 : ad1214.block ≠ aa := Nat.ne_of_lt (Nat.lt_of_lt_of_le (by have := World.block_lt_of_cell? _ _ hx1216_0; first | rwa [add_block] at this | exact this) ae.out); replace hx1216_0 := (HB.out.cell (World.block_lt_of_cell? w _ hx1216_0)).trans hx1216_0; replace hx1216_0 := (cell_far (p := ⟨aa, 0, none⟩) (by first | (rw [add_block]; exact hn1216_0) | (show (Addr.add _ _).block ≠ _; rw [add_block]; exact hn1216_0) | exact hn1216_0) (.int .i64 (rd l0 x4_1))).trans hx1216_0; replace hx1216_0 := (cell_far (p := ⟨aa, 1, none⟩) (by first | (rw [add_block]; exact hn1216_1) | (show (Addr.add _ _).block ≠ _; rw [add_block]; exact hn1216_1) | exact hn1216_1) (.bool false)).trans hx1216_0; clear hn1216_0; clear hn1216_1; replace p1216 := eq_true p1216; replace q1216 := eq_true q1216) | ((with_reducible refine gate_builtin (b := .append) (xs := #[.tmp 28, .tmp 30]) rfl ?_); at_builtin; refine Kd.R_append k67 (w0 := w) w.heap.size rfl (.tmp 28) (.tmp 30) 26 67 (.agg #[(.int .i64 0), (.bool false)]) 16 rfl Try.underlying26 info67 rfl (by decide) (by omega) u3 x3_1 (⟨rd l0 x4_1, false⟩ : S67) [.int .i64 (rd l0 x4_1), .bool false] (fun k_ => k_ ≠ aa) (fun _ => False) rfl (by first | (go_simp; done) | (go_simp; rfl)) ?aP (fun _ hk => hk.elim) ?aF ?aO ?aB ?aS ?aL ?_; (case aP => exact k67_mkM _ _ _ (⟨rd l0 x4_1, false⟩ : S67)); (case aB => exact (zqG HB.out ad.out)); (case aF => exact (fun k_ hk => Kd.freshB (g := aa) (o := .cells #[.int .i64 (rd l0 x4_1), .bool false] 67 (0, 0)) (by (with_reducible repeat (first | refine blk_drewN ?_ _ | refine blk_drew ?_ | refine blk_alloc ?_ _)); refine blk_put (cs := #[.int .i64 (rd l0 x4_1), .bool false]) ?_ 1 _ rfl; (with_reducible repeat (first | refine blk_drewN ?_ _ | refine blk_drew ?_ | refine blk_alloc ?_ _)); refine blk_put (cs := #[.int .i64 0, .bool false]) ?_ 0 _ rfl; (with_reducible repeat (first | refine blk_drewN ?_ _ | refine blk_drew ?_ | refine blk_alloc ?_ _)); exact ab.out) k_ hk)); (case aO => exact (by (with_reducible repeat (first | apply Kd.R_alloc | apply Kd.R_drewN | apply Kd.R_drew)); exact Kd.R_mono (Kd.R_far (p := ⟨aa, 1, none⟩) (Kd.R_far (p := ⟨aa, 0, none⟩) (Kd.R_mono ac.out (fun k_ hk => (⟨hk, hk.2⟩ : _ ∧ k_ ≠ aa))) (fun _ hk => hk.2) (.int .i64 (rd l0 x4_1))) (fun _ hk => hk.2) (.bool false)) (fun _ hk => hk.1.2))); (case aS => exact (below_size (zqG HB.out ad.out))); (case aL => have := LMc9.out; omega); intro v1222 w12 ho hb hg hat; rw [← Ny1221.out] at ho; replace ab := zA (blk_grown (g := aa) (o := .cells #[.int .i64 (rd l0 x4_1), .bool false] 67 (0, 0)) (by (with_reducible repeat (first | refine blk_drewN ?_ _ | refine blk_drew ?_ | refine blk_alloc ?_ _)); refine blk_put (cs := #[.int .i64 (rd l0 x4_1), .bool false]) ?_ 1 _ rfl; (with_reducible repeat (first | refine blk_drewN ?_ _ | refine blk_drew ?_ | refine blk_alloc ?_ _)); refine blk_put (cs := #[.int .i64 0, .bool false]) ?_ 0 _ rfl; (with_reducible repeat (first | refine blk_drewN ?_ _ | refine blk_drew ?_ | refine blk_alloc ?_ _)); exact ab.out) hg (Kd.R_away ac.out (fun _ hk => hk.2))); replace HB := zA (hb); have HO1223 := zA (ho); clear ac; clear ho hb hg hat))
       go_roundg k1
       case measure => have := HK1.out; omega
       case rel => exact ⟨(y1221), (wrap64 (x4_1 + 1)), zqQ, H', ⟨by have := HK1.out; omega⟩, ⟨by (with_reducible repeat (first | apply Kd.R_alloc | apply Kd.R_drewN | apply Kd.R_drew)); exact Kd.R_mono HO1223.out (fun _ hk => trivial)⟩, ⟨zqG HB.out ad.out⟩⟩
      ·
       rw [if_neg c9] at H
       exact absurd H (by simp)
    ·
     rw [if_neg c3] at H
     exact absurd H (by simp)
   ·
    rw [if_neg c2] at H
    have c2b0 : decide (x4_1 < (l0.length : Int)) = false := decide_eq_false c2
    clear c2
    obtain rfl := Option.some.inj H
    go_wp2
    go_ret
    exact ⟨_, zqR, zqC ac.out, zqA HB.out⟩
end Go.Proofs.Ytehpbmdphfbooaa.P
end
section
namespace Go.Proofs.Ytehpbmdphfbooaa.P
open Go.RowKit Go.Proofs.YtehpbmdphfbooaaW.PrintWords Go.Proofs.YtehpbmdphfbooaaW.PrintLast Go.Proofs.YtehpbmdphfbooaaW.PrintMore
attribute [local go_sem] max2_int min2_int max_two min_two max_three min_three max_four min_four
set_option linter.unusedVariables false
set_option linter.unusedSimpArgs false
def selfO (o : S67) : Bool := decide (0 ≤ o.f0) && !o.f1
def metB (O : List S67) (k : Nat) (a : Int) : Bool := (O.take k).any fun x => selfO x && decide (x.f0 = a)
def orgsF (nF : Int) (O : List S67) : Nat → Nat → Int
  | 0, _ => 0
  | d + 1, k =>
    if ¬ (-1 ≤ (rd_T67 O k).f0 ∧ (rd_T67 O k).f0 ≤ nF - 1) then 8
    else if (rd_T67 O k).f0 < 0 ∧ (rd_T67 O k).f1 = true then 21
    else if (selfO (rd_T67 O k) && metB O k (rd_T67 O k).f0) = true then 9
    else orgsF nF O d (k + 1)
theorem metB_succ {O : List S67} {k : Nat} (h : k < O.length) (a : Int) : metB O (k + 1) a = (metB O k a || (selfO (rd_T67 O k) && decide ((rd_T67 O k).f0 = a))) := by
  unfold metB
  have e : O.take (k + 1) = O.take k ++ [rd_T67 O (k : Int)] := by
    rw [List.take_succ_eq_append_getElem h]
    unfold rd_T67
    rw [List.getD_eq_getElem?_getD, Int.toNat_natCast, List.getElem?_eq_getElem h]; rfl
  rw [e, List.any_append]
  simp
theorem heap_alloc_new (W : World) (o : Obj) : (W.alloc o).heap[W.heap.size]? = some o := (MapKept.heap_alloc W o).1
theorem between_t {a b c : Int} (w : World) (h : a ≤ b ∧ b ≤ c) : Calls Try.prog 70 #[.int .i64 a, .int .i64 b, .int .i64 c] w fun e w' => e = .returned (.bool true) ∧ Drawn0 w w' :=
  edit_between.calls a b c true w (by unfold edit_between.f; rw [if_pos h.1, decide_eq_true h.2])
theorem between_f {a b c : Int} (w : World) (h : ¬ (a ≤ b ∧ b ≤ c)) : Calls Try.prog 70 #[.int .i64 a, .int .i64 b, .int .i64 c] w fun e w' => e = .returned (.bool false) ∧ Drawn0 w w' :=
  edit_between.calls a b c false w (by
    unfold edit_between.f
    by_cases h1 : a ≤ b
    · rw [if_pos h1, decide_eq_false (fun h2 => h ⟨h1, h2⟩)]
    · rw [if_neg h1])
theorem self_c (of : Int) (cp : Bool) (w : World) : Calls Try.prog 71 #[.agg #[.int .i64 of, .bool cp]] w fun e w' => e = .returned (.bool (decide (0 ≤ of) && !cp)) ∧ Below w.heap.size w w' :=
  edit_Origin_self.calls of cp _ w (by
    unfold edit_Origin_self.f
    by_cases h : of ≥ 0
    · rw [if_pos h, decide_eq_true h]; rfl
    · rw [if_neg h, decide_eq_false h]; rfl)
theorem keyB3 : KeyE Try.prog 3 (fun a : Int => Value.int .i64 a) := keyInt Try.underlying3
theorem zeroB (w : World) : (zeroValue 4).run Try.prog w = .ok (.bool false) w := by kernel_rfl
theorem look_b {w : World} {gm : Nat} {M : List (Int × Bool)} (h : HasM w (fun a : Int => Value.int .i64 a) (fun b : Bool => Value.bool b) gm M) (a : Int) : (Instr.lookup 135 (.map (some gm)) (.int .i64 a) false).run Try.prog w = .ok (.bool ((getM M a).getD false)) w := by
  refine (h.look keyB3 Try.underlying135 (zeroB w) a).trans ?_
  cases getM M a <;> rfl
theorem ret_int {k : IntKind} {a b : Int} (h : a = b) : Ending.returned (.int k a) = .returned (.int k b) := by rw [h]
theorem blk_keep {W W' : World} {g : Nat} {o : Obj} (h : W.heap[g]? = some o) (hb : Below W.heap.size W W') : W'.heap[g]? = some o := (hb.block g (Array.getElem?_eq_some_iff.1 h).1).trans h
def edit_CheckPatchK.f (k : Nat) (l0_0 : List (S61)) (l0_1 : List (S61)) (l0_2 : List (S67)) : Option (Int) := (edit_Check.f k l0_0).bind fun t228 => ((edit_Check.f k l0_1).bind fun t229 => ((api_Errno.f k (([t228, t229] : List Int))).bind fun t233 => (if t233 = 0 then (if (l0_2.length : Int) = (l0_1.length : Int) then (some (orgsF (l0_0.length : Int) l0_2 l0_2.length 0)) else (some 6)) else (some t233))))
def edit_CheckPatchK.T1 : Bool × List (List Nat × List Nat) := (true, [([], []), ([0], [0]), ([1], [1]), ([], []), ([3], [3]), ([4, 2], [4]), ([2, 5], [2, 5]), ([6, 5], [6]), ([7, 7, 0, 1, 2, 3, 4, 5, 6, 7], [7])])
def edit_CheckPatchK.B1 : List Nat := [0, 1, 3, 0, 8, 31, 63, 127, 255]
theorem edit_CheckPatchK.tab1 : rtab .any (opsOf Try.f34 1) = edit_CheckPatchK.T1 := by kernel_rfl
theorem edit_CheckPatchK.bits1 : waitsOk edit_CheckPatchK.T1.2 edit_CheckPatchK.B1 = true := by kernel_rfl
def edit_CheckPatchK.T16 : Bool × List (List Nat × List Nat) := (true, [([], []), ([], []), ([1], [1]), ([], []), ([], []), ([4], [4]), ([3, 5], [3, 5]), ([6], [6]), ([7], [7]), ([8, 7, 7], [7, 8]), ([7, 9], [7, 9]), ([0, 2, 10, 9, 0, 1, 2, 3, 4, 5, 6, 7, 8, 9, 10], [0, 2, 10])])
def edit_CheckPatchK.B16 : List Nat := [0, 0, 2, 0, 0, 16, 56, 120, 248, 504, 1016, 2047]
theorem edit_CheckPatchK.tab16 : rtab .any (opsOf Try.f34 16) = edit_CheckPatchK.T16 := by kernel_rfl
theorem edit_CheckPatchK.bits16 : waitsOk edit_CheckPatchK.T16.2 edit_CheckPatchK.B16 = true := by kernel_rfl
set_option maxHeartbeats 8000000 in
set_option maxRecDepth 100000 in
theorem edit_CheckPatchK.calls (k : Nat) (ag : Option Addr) (ah : Nat) (ac : List (S61)) (ai : Option Addr) (aj : Nat) (ae : List (S61)) (al : Option Addr) (ak : Nat) (ab : List (S67)) (r : Int) (w : World) (aA : Kd.C k61 w ag ac.length ac) (aB : ac.length ≤ ah) (aC : Kd.C k61 w ai ae.length ae) (aD : ae.length ≤ aj) (aE : Kd.C k67 w al ab.length ab) (aF : ab.length ≤ ak) (h : edit_CheckPatchK.f k ac ae ab = some r) :
  Calls Try.prog 34 #[.agg #[.slice ag ac.length ah, .slice ai ae.length aj, .slice al ab.length ak]] w fun e w' => e = .returned (.int .i64 r) ∧ Below w.heap.size w w' := by
 have hu28 := Try.underlying28
 have ar := zA aA
 have aw := zA aB
 clear aA aB
 have ax := zA aC
 have ay := zA aD
 clear aC aD
 have aG := zA aE
 have HC0_2 := zA aF
 clear aE aF
 have HB := zA (Below.refl w.heap.size w)
 have H : ((edit_Check.f k ac).bind fun t228 => ((edit_Check.f k ae).bind fun t229 => ((api_Errno.f k (([t228, t229] : List Int))).bind fun t233 => (if t233 = 0 then (if (ab.length : Int) = (ae.length : Int) then (some (orgsF (ac.length : Int) ab ab.length 0)) else (some 6)) else (some t233))))) = some r := h
 clear h
 replace H := Option.bind_eq_some_iff.mp H
 obtain ⟨t228, A20, H⟩ := H
 replace H : ((edit_Check.f k ae).bind fun t229 => ((api_Errno.f k (([t228, t229] : List Int))).bind fun t233 => (if t233 = 0 then (if (ab.length : Int) = (ae.length : Int) then (some (orgsF (ac.length : Int) ab ab.length 0)) else (some 6)) else (some t233)))) = some r := H
 have A2 := zA A20
 clear A20
 replace H := Option.bind_eq_some_iff.mp H
 obtain ⟨t229, A30, H⟩ := H
 replace H : ((api_Errno.f k (([t228, t229] : List Int))).bind fun t233 => (if t233 = 0 then (if (ab.length : Int) = (ae.length : Int) then (some (orgsF (ac.length : Int) ab ab.length 0)) else (some 6)) else (some t233))) = some r := H
 have A3 := zA A30
 clear A30
 obtain ⟨y230, az⟩ : ∃ y_ : List Int, y_ = (([t228, t229] : List Int)) := ⟨_, rfl⟩
 replace H : ((api_Errno.f k y230).bind fun t233 => (if t233 = 0 then (if (ab.length : Int) = (ae.length : Int) then (some (orgsF (ac.length : Int) ab ab.length 0)) else (some 6)) else (some t233))) = some r := zqF az H
 have ap := zA az
 clear az
 replace H := Option.bind_eq_some_iff.mp H
 obtain ⟨t233, A40, H⟩ := H
 replace H : (if t233 = 0 then (if (ab.length : Int) = (ae.length : Int) then (some (orgsF (ac.length : Int) ab ab.length 0)) else (some 6)) else (some t233)) = some r := H
 have A4 := zA A40
 clear A40
 by_cases c5 : t233 = 0
 ·
  rw [if_pos c5] at H
  have c5b0 : (t233 == 0) = true := beq_iff_eq.mpr c5
  have c5b1 : (t233 != 0) = false := bne_eq_false_iff_eq.mpr c5
  clear c5
  by_cases c6 : (ab.length : Int) = (ae.length : Int)
  ·
   rw [if_pos c6] at H
   have c6b0 : ((ab.length : Int) == (ae.length : Int)) = true := beq_iff_eq.mpr c6
   have c6b1 : ((ab.length : Int) != (ae.length : Int)) = false := bne_eq_false_iff_eq.mpr c6
   have c6b2 : (ab.length == ae.length) = true := by first | simpa using c6 | (simp at c6 ⊢; omega)
   clear c6
   obtain rfl := Option.some.inj H
   go_enter Try.func34, Try.ntmps34
   try go_wp2_with (first | ((with_reducible refine gate_dst (N := 1) rfl ?_); refine box_event ?hg (N := 1) ?hd (cs := #[.slice ag ac.length ah, .slice ai ae.length aj, .slice al ab.length ak]) (t := 28) ?hr ?_; (case hd => rfl); (case hg => rfl); (case hr => first | (go_simp; done) | (go_simp; rfl)); intro af hg w7 hbox hb; have aa := zA (hbox); have aH := zA ((by rw [hg]; exact (below_size (zqA HB.out)) : w.heap.size ≤ af)); have am := zA ((by rw [hg]; exact (below_size (zqA HB.out)) : w.heap.size ≤ af)); replace HB := zA (below_step (zqA HB.out) hb); clear hb hbox hg))
   replace aa := zA (blk_drew aa.out)
   replace HB := zA (below_drew1 HB.out)
   refine start_ (n := 9) (S := fun w' => w'.cell? ⟨af, 0, none⟩ = some (.slice ag ac.length ah) ∧ w'.cell? ⟨af, 1, none⟩ = some (.slice ai ae.length aj) ∧ w'.cell? ⟨af, 2, none⟩ = some (.slice al ab.length ak)) (ds := []) #[false, false, false, false, false, false, false, false, false] (by kernel_rfl) rfl rfl ⟨(blk_cell aa.out 0).trans rfl, (blk_cell aa.out 1).trans rfl, (blk_cell aa.out 2).trans rfl⟩ (fun hHeld => ?_); refine with_tabW edit_CheckPatchK.tab1 edit_CheckPatchK.bits1 (fun HT_ HW_ => ?_)
   generalize w7.drew = w8 at aa HB hHeld ⊢
   refine pureQ 0 (some 7) HT_ ?_
   refine pureQ 3 (some 10) HT_ ?_
   refine takeQ (v := ?_) (a' := ?_) 1 (some 8) HT_ HW_ hHeld ?_ ?_ ?_
   rotate_left
   ·
    rintro w' ⟨s0, s1, s2⟩
    go_simp
    with_reducible rfl
   rotate_left
   ·
    exact putQ
   refine takeQ (v := ?_) (a' := ?_) 4 (some 11) HT_ HW_ hHeld ?_ ?_ ?_
   rotate_left
   ·
    rintro w' ⟨s0, s1, s2⟩
    go_simp
    with_reducible rfl
   rotate_left
   ·
    exact putQ
   refine one_ (i := 2) (N := some 9) #[true, true, true, true, true, false, false, false, false] rfl rfl (one_of HT_.out (by kernel_rfl)) (by decide) (fun K hK => ?_)
   refine goes_ Try.func19 (by kernel_rfl) rfl #[.slice ag ac.length ah] (by rfl) rfl rfl zqE ?_
   with_reducible refine (edit_Check.calls k _ _ ac t228 _ ?side1 ?side2 A2.out).mono ?_
   (case side1 => exact zqK (Kd.C_below ar.out HB.out))
   (case side2 => exact aw.out)
   rintro e w9 ⟨rfl, hb⟩
   refine ⟨_, rfl, ?_⟩
   replace aa := zA (blk_below (g := af) (o := .cells #[.slice ag ac.length ah, .slice ai ae.length aj, .slice al ab.length ak] 28 (0, 0)) (zqB aa.out) hb)
   replace HB := zA (below_step (zqG HB.out am.out) hb)
   refine hK.out _ _ ⟨(blk_cell aa.out 0).trans rfl, (blk_cell aa.out 1).trans rfl, (blk_cell aa.out 2).trans rfl⟩ (fun hHeld => ?_)
   clear hK K
   refine normQ ?_
   refine one_ (i := 5) (N := some 12) #[true, true, true, true, true, true, false, false, false] rfl rfl (one_of HT_.out (by kernel_rfl)) (by decide) (fun K hK => ?_)
   refine goes_ Try.func19 (by kernel_rfl) rfl #[.slice ai ae.length aj] (by rfl) rfl rfl zqE ?_
   with_reducible refine (edit_Check.calls k _ _ ae t229 _ ?side1 ?side2 A3.out).mono ?_
   (case side1 => exact zqK (Kd.C_below ax.out HB.out))
   (case side2 => exact ay.out)
   rintro e w10 ⟨rfl, hb⟩
   refine ⟨_, rfl, ?_⟩
   replace aa := zA (blk_below (g := af) (o := .cells #[.slice ag ac.length ah, .slice ai ae.length aj, .slice al ab.length ak] 28 (0, 0)) (zqB aa.out) hb)
   replace HB := zA (below_step (zqG HB.out am.out) hb)
   refine hK.out _ _ ⟨(blk_cell aa.out 0).trans rfl, (blk_cell aa.out 1).trans rfl, (blk_cell aa.out 2).trans rfl⟩ (fun hHeld => ?_)
   clear hK K
   refine normQ ?_
   refine one_ (i := 6) (N := some 13) #[true, true, true, true, true, true, true, false, false] rfl rfl (one_of HT_.out (by kernel_rfl)) (by decide) (fun K hK => ?_)
   refine Kd.R_lit_step (Kd.int .i64) _ 29 ?hg (N := 13) ?hd (xs := ([t228, t229] : List Int)) (inner := [.int .i64 t228, .int .i64 t229]) (ok := fun _ => True) (okp := fun _ => True) ?hr ?hp (fun _ hk => hk) trivial (Below.refl _ _) (Nat.le_refl _) (by simp) ?_; (case hd => rfl); (case hg => rfl); (case hr => first | (go_simp; done) | (go_simp; rfl)); (case hp => exact (Reps.one (show Kd.M (Kd.int .i64) _ _ _ t228 [.int .i64 t228] from rfl) (Reps.one (show Kd.M (Kd.int .i64) _ _ _ t229 [.int .i64 t229] from rfl) (Reps.none _ _))))
   intro v231 w11 ho12 hb hg_ hnew_
   clear hg_ hnew_
   (first | rw [← ap.out] at ho12 | (simp only [Int.reduceToNat] at ho12; rw [← ap.out] at ho12))
   have an := zA (Kd.R_lower ho12 (below_size (zqG HB.out am.out)))
   replace aa := zA (blk_below (g := af) (o := .cells #[.slice ag ac.length ah, .slice ai ae.length aj, .slice al ab.length ak] 28 (0, 0)) (zqB aa.out) hb)
   replace HB := zA (below_step (zqG HB.out am.out) hb)
   clear hb ho12
   obtain ⟨Ao13, co13, eo13⟩ := Kd.R_slice an.out
   (first | subst eo13 | (injection eo13 with f1_ f2_ f3_; have f4_ := f1_.symm; have f5_ := f3_.symm; clear f1_ f2_ f3_; subst f4_; subst f5_))
   refine hK.out _ _ ⟨(blk_cell aa.out 0).trans rfl, (blk_cell aa.out 1).trans rfl, (blk_cell aa.out 2).trans rfl⟩ (fun hHeld => ?_)
   clear hK K
   refine normQ ?_
   refine one_ (i := 7) (N := some 14) #[true, true, true, true, true, true, true, true, false] rfl rfl (one_of HT_.out (by kernel_rfl)) (by decide) (fun K hK => ?_)
   refine goes_ Try.func58 (by kernel_rfl) rfl #[.slice Ao13 y230.length co13] (by rfl) rfl rfl zqE ?_
   with_reducible refine (api_Errno.calls k _ _ y230 t233 _ ?side1 ?side2 A4.out).mono ?_
   (case side1 => exact zqK (Kd.R_reads' an.out).2.2)
   (case side2 => exact (Kd.R_reads' an.out).2.1)
   rintro e w' ⟨rfl, ⟨nd, rfl⟩⟩
   refine ⟨_, rfl, ?_⟩
   refine hK.out _ _ ⟨(blk_cell aa.out 0).trans rfl, (blk_cell aa.out 1).trans rfl, (blk_cell aa.out 2).trans rfl⟩ (fun hHeld => ?_)
   clear hK K
   refine normQ ?_
   refine pureQ 8 (some 3) HT_ ?_
   refine done_ (done_of HT_.out (by kernel_rfl)) ?_
   have hcz14_0 : w11.cell? ⟨af, 0, none⟩ = some (.slice ag ac.length ah) := (blk_cell aa.out 0).trans rfl
   have hcz14_1 : w11.cell? ⟨af, 1, none⟩ = some (.slice ai ae.length aj) := (blk_cell aa.out 1).trans rfl
   have hcz14_2 : w11.cell? ⟨af, 2, none⟩ = some (.slice al ab.length ak) := (blk_cell aa.out 2).trans rfl
   have hfz14_0 := blk_frozen aa.out 0
   have hfz14_1 := blk_frozen aa.out 1
   have hfz14_2 := blk_frozen aa.out 2
   have hmm := @run_makeMap Try.prog
   go_upto_region 7 with (fail)
   obtain ⟨gm, hgm⟩ : ∃ g_ : Nat, g_ = w11.heap.size := ⟨_, rfl⟩
   have HM0 : Aside0 (HasM ((w11.drewN nd).alloc (.map #[] 0)) (fun a : Int => Value.int .i64 a) (fun b : Bool => Value.bool b) gm []) := ⟨by rw [hgm]; exact HasM.made (w11.drewN nd) _ _⟩
   have n0_ := zA (below_alloc (pw_below_drewN HB.out nd) (.map #[] 0)); have n1_ := zA (blk_alloc (blk_drewN aa.out nd) (.map #[] 0))
   have n2_ : Aside0 (w.heap.size ≤ gm) := ⟨by rw [hgm]; exact HB.out.size⟩
   have n3_ : Aside0 (af ≠ gm) := ⟨by rw [hgm]; exact Nat.ne_of_lt (blk_lt aa.out)⟩
   rw [← hgm]
   clear hgm HB aa hHeld hcz14_0 hcz14_1 hcz14_2 hfz14_0 hfz14_1 hfz14_2 hmm an; generalize (w11.drewN nd).alloc (.map #[] 0) = W0 at HM0 n0_ n1_ ⊢; have HB := n0_; have BK := n1_; have GM := n2_; have NG := n3_
   have hc2 : W0.cell? ⟨af, 2, none⟩ = some (.slice al ab.length ak) := (blk_cell BK.out 2).trans rfl
   clear n0_ n1_ n2_ n3_ HT_ HW_
   go_wp2
   clear hc2
   obtain ⟨r, hr⟩ : ∃ r_ : Int, r_ = orgsF (ac.length : Int) ab ab.length 0 := ⟨_, rfl⟩
   have HR := zA hr
   have au := zA hr
   clear hr
   have hl0 : ac.length ≤ 9223372036854775807 := ar.out.2.1
   have hl2 : ab.length ≤ 9223372036854775807 := aG.out.2.1
   go_loopg [29] ab.length (fun kq v29 w' => ∃ (k : Nat) (M : List (Int × Bool)), v29 = .int .i64 k ∧ k ≤ ab.length ∧ ab.length - k ≤ kq ∧ Aside0 (r = orgsF (ac.length : Int) ab (ab.length - k) k) ∧ Aside0 (HasM w' (fun a : Int => Value.int .i64 a) (fun b : Bool => Value.bool b) gm M) ∧ Aside0 (∀ a, (getM M a).getD false = metB ab k a) ∧
    Aside0 (w'.heap[af]? = some (.cells #[.slice ag ac.length ah, .slice ai ae.length aj, .slice al ab.length ak] 28 (0, 0))) ∧ Aside0 (Below w.heap.size w w'))
   case atStart => exact ⟨0, [], rfl, Nat.zero_le _, by omega, HR, HM0, ⟨fun a => by simp [getM, metB]⟩, BK, HB⟩
   case round =>
    clear HM0 BK HB HR
    obtain ⟨k, M, rfl, hk, hkx, HR, HM, HI, BK, HB⟩ := hrel
    by_cases q : k < ab.length
    ·
     have qz : (k : Int) < (ab.length : Int) := by omega
     obtain ⟨g1, rfl⟩ : ∃ g_, gk = g_ + 1 := ⟨gk - 1, by omega⟩
     obtain ⟨ad, e, h0, h1⟩ := at_T67 aG.out (k : Int) (by omega) qz
     subst e
     rw [Int.toNat_natCast] at h0 h1
     replace h0 := (HB.out.cell (World.block_lt_of_cell? w _ h0)).trans h0
     replace h1 := (HB.out.cell (World.block_lt_of_cell? w _ h1)).trans h1
     have HS : Aside0 (r = (if ¬ (-1 ≤ (rd_T67 ab k).f0 ∧ (rd_T67 ab k).f0 ≤ (ac.length : Int) - 1) then 8 else if (rd_T67 ab k).f0 < 0 ∧ (rd_T67 ab k).f1 = true then 21 else if (selfO (rd_T67 ab k) && metB ab k (rd_T67 ab k).f0) = true then 9 else orgsF (ac.length : Int) ab (ab.length - (k + 1)) (k + 1))) := ⟨by
      have := HR.out
      rw [show ab.length - k = (ab.length - (k + 1)) + 1 by omega] at this
      exact this⟩
     have HMB : Aside0 (∀ a, metB ab (k + 1) a = (metB ab k a || (selfO (rd_T67 ab k) && decide ((rd_T67 ab k).f0 = a)))) := ⟨fun a => metB_succ q a⟩
     have HSO : Aside0 (selfO (rd_T67 ab k) = (decide (0 ≤ (rd_T67 ab k).f0) && !(rd_T67 ab k).f1)) := ⟨rfl⟩
     obtain ⟨so, hso⟩ : ∃ x_ : Bool, x_ = selfO (rd_T67 ab k) := ⟨_, rfl⟩
     rw [← hso] at HS HMB HSO
     clear hso
     obtain ⟨of, hof⟩ : ∃ x_ : Int, x_ = (rd_T67 ab k).f0 := ⟨_, rfl⟩
     obtain ⟨cp, hcp⟩ : ∃ x_ : Bool, x_ = (rd_T67 ab k).f1 := ⟨_, rfl⟩
     rw [← hof] at h0 HS HMB HSO
     rw [← hcp] at h1 HS HSO
     clear hof hcp
     obtain ⟨gets, hgets⟩ : ∃ x_ : Bool, x_ = (getM M of).getD false := ⟨_, rfl⟩
     have HG := zA hgets
     have HGM : Aside0 (gets = metB ab k of) := ⟨hgets.trans (HI.out of)⟩
     clear hgets
     obtain ⟨go, hgo⟩ : ∃ x_ : Nat, x_ = wr.heap.size := ⟨_, rfl⟩
     go_upto_block 2 with (fail)
     rw [← hgo]
     have n0_ := zA (heap_alloc_new wr (.cells #[.int .i64 of, .bool cp] 67)); have n1_ := zA (below_alloc HB.out (.cells #[.int .i64 of, .bool cp] 67)); have n2_ := zA (blk_alloc BK.out (.cells #[.int .i64 of, .bool cp] 67)); have n3_ := zA (HM.out.alloc (.cells #[.int .i64 of, .bool cp] 67))
     have NO : Aside0 (go ≠ gm) := ⟨by have := HM.out.lt; omega⟩
     have NP : Aside0 (go ≠ af) := ⟨by have := blk_lt BK.out; omega⟩
     rw [← hgo] at n0_
     clear hgo h0 h1 HB BK HM; generalize wr.alloc (.cells #[.int .i64 of, .bool cp] 67) = W1 at n0_ n1_ n2_ n3_ ⊢; have BO := n0_; have HB := n1_; have BK := n2_; have HM := n3_; clear n0_ n1_ n2_ n3_
     go_cut [] (fun wc => Aside0 (wc.heap[go]? = some (.cells #[.int .i64 of, .bool cp] 67 (0, 0))) ∧ Aside0 (wc.heap[af]? = some (.cells #[.slice ag ac.length ah, .slice ai ae.length aj, .slice (some ad) ab.length ak] 28 (0, 0))) ∧ Aside0 (HasM wc (fun a : Int => Value.int .i64 a) (fun b : Bool => Value.bool b) gm M) ∧ Aside0 (Below w.heap.size w wc) ∧ Aside0 ((so && gets) = false) ∧ Aside0 (r = orgsF (ac.length : Int) ab (ab.length - (k + 1)) (k + 1)))
     case first =>
      have ao : W1.cell? ⟨go, 0, none⟩ = some (.int .i64 of) := (blk_cell BO.out 0).trans rfl
      have av : W1.cell? ⟨go, 1, none⟩ = some (.bool cp) := (blk_cell BO.out 1).trans rfl
      have cb0 : W1.cell? ⟨af, 0, none⟩ = some (.slice ag ac.length ah) := (blk_cell BK.out 0).trans rfl
      have hs := HS.out
      by_cases c1 : -1 ≤ of ∧ of ≤ (ac.length : Int) - 1
      ·
       rw [if_neg (fun h => h c1)] at hs
       have C1 := zA c1
       clear c1
       by_cases c2 : of < 0
       ·
        have c2b : decide (of < 0) = true := decide_eq_true c2
        have c2c : decide (0 ≤ of) = false := decide_eq_false (by omega)
        cases cp with
        | true =>
         rw [if_pos ⟨c2, rfl⟩] at hs
         have HS9 := zA hs
         clear hs c2
         go_wp2_with (first | (go_at_call 70; refine (between_t _ C1.out).mono ?_; rintro e w' ⟨rfl, nd9, rfl⟩))
         go_ret
         exact ⟨ret_int (HS9.out.symm.trans au.out), pw_below_drewN HB.out _⟩
        | false =>
         have hso : so = false := HSO.out.trans (by rw [c2c]; rfl)
         rw [if_neg (fun h => Bool.noConfusion h.2), if_neg (by rw [hso]; exact Bool.noConfusion)] at hs
         have HS9 := zA hs
         have HF : Aside0 ((so && gets) = false) := ⟨by rw [hso]; rfl⟩
         clear hs c2 hso
         go_wp2_with (first | (go_at_call 70; refine (between_t _ C1.out).mono ?_; rintro e w' ⟨rfl, nd9, rfl⟩))
         refine (self_c of false _).mono ?_
         rintro e w5 ⟨rfl, hb5⟩
         have BO5 := zA (blk_keep (blk_drewN BO.out nd9) hb5)
         have aq := zA (blk_keep (blk_drewN BK.out nd9) hb5)
         have HM5 : Aside0 (HasM w5 (fun a : Int => Value.int .i64 a) (fun b : Bool => Value.bool b) gm M) := ⟨(HM.out.drew nd9).same (hb5.block gm (HM.out.drew nd9).lt)⟩
         have HB5 := zA (below_step (pw_below_drewN HB.out nd9) hb5)
         clear hb5 ao av cb0
         have ao : w5.cell? ⟨go, 0, none⟩ = some (.int .i64 of) := (blk_cell BO5.out 0).trans rfl
         go_wp2
         go_meet
         case rel => exact ⟨BO5, aq, HM5, HB5, HF, HS9⟩
       ·
        have c2b : decide (of < 0) = false := decide_eq_false c2
        have c2c : decide (0 ≤ of) = true := decide_eq_true (by omega)
        rw [if_neg (fun h => c2 h.1)] at hs
        cases cp with
        | true =>
         have hso : so = false := HSO.out.trans (by rw [c2c]; rfl)
         rw [if_neg (by rw [hso]; exact Bool.noConfusion)] at hs
         have HS9 := zA hs
         have HF : Aside0 ((so && gets) = false) := ⟨by rw [hso]; rfl⟩
         clear hs c2 hso
         go_wp2_with (first | (go_at_call 70; refine (between_t _ C1.out).mono ?_; rintro e w' ⟨rfl, nd9, rfl⟩))
         refine (self_c of true _).mono ?_
         rintro e w5 ⟨rfl, hb5⟩
         have BO5 := zA (blk_keep (blk_drewN BO.out nd9) hb5)
         have aq := zA (blk_keep (blk_drewN BK.out nd9) hb5)
         have HM5 : Aside0 (HasM w5 (fun a : Int => Value.int .i64 a) (fun b : Bool => Value.bool b) gm M) := ⟨(HM.out.drew nd9).same (hb5.block gm (HM.out.drew nd9).lt)⟩
         have HB5 := zA (below_step (pw_below_drewN HB.out nd9) hb5)
         clear hb5 ao av cb0
         have ao : w5.cell? ⟨go, 0, none⟩ = some (.int .i64 of) := (blk_cell BO5.out 0).trans rfl
         go_wp2
         go_meet
         case rel => exact ⟨BO5, aq, HM5, HB5, HF, HS9⟩
        | false =>
         have hso : so = true := HSO.out.trans (by rw [c2c]; rfl)
         rw [hso, Bool.true_and, ← HGM.out] at hs
         cases hgb : gets with
         | true =>
          rw [hgb, if_pos rfl] at hs
          have HS9 := zA hs
          have HG9 : Aside0 ((getM M of).getD false = true) := ⟨HG.out.symm.trans hgb⟩
          clear hs c2 hso hgb
          go_wp2_with (first | (go_at_call 70; refine (between_t _ C1.out).mono ?_; rintro e w' ⟨rfl, nd9, rfl⟩))
          refine (self_c of false _).mono ?_
          rintro e w5 ⟨rfl, hb5⟩
          have BO5 := zA (blk_keep (blk_drewN BO.out nd9) hb5)
          have aq := zA (blk_keep (blk_drewN BK.out nd9) hb5)
          have HM5 : Aside0 (HasM w5 (fun a : Int => Value.int .i64 a) (fun b : Bool => Value.bool b) gm M) := ⟨(HM.out.drew nd9).same (hb5.block gm (HM.out.drew nd9).lt)⟩
          have HB5 := zA (below_step (pw_below_drewN HB.out nd9) hb5)
          clear hb5 ao av cb0
          have ao : w5.cell? ⟨go, 0, none⟩ = some (.int .i64 of) := (blk_cell BO5.out 0).trans rfl
          have hlk := look_b HM5.out of
          rw [HG9.out] at hlk
          go_wp2
          go_ret
          exact ⟨ret_int (HS9.out.symm.trans au.out), HB5.out⟩
         | false =>
          rw [hgb, if_neg Bool.noConfusion] at hs
          have HS9 := zA hs
          have HF : Aside0 ((so && gets) = false) := ⟨by rw [hgb, Bool.and_false]⟩
          have HG9 : Aside0 ((getM M of).getD false = false) := ⟨HG.out.symm.trans hgb⟩
          clear hs c2 hso hgb
          go_wp2_with (first | (go_at_call 70; refine (between_t _ C1.out).mono ?_; rintro e w' ⟨rfl, nd9, rfl⟩))
          refine (self_c of false _).mono ?_
          rintro e w5 ⟨rfl, hb5⟩
          have BO5 := zA (blk_keep (blk_drewN BO.out nd9) hb5)
          have aq := zA (blk_keep (blk_drewN BK.out nd9) hb5)
          have HM5 : Aside0 (HasM w5 (fun a : Int => Value.int .i64 a) (fun b : Bool => Value.bool b) gm M) := ⟨(HM.out.drew nd9).same (hb5.block gm (HM.out.drew nd9).lt)⟩
          have HB5 := zA (below_step (pw_below_drewN HB.out nd9) hb5)
          clear hb5 ao av cb0
          have ao : w5.cell? ⟨go, 0, none⟩ = some (.int .i64 of) := (blk_cell BO5.out 0).trans rfl
          have hlk := look_b HM5.out of
          rw [HG9.out] at hlk
          go_wp2
          go_meet
          case rel => exact ⟨BO5, aq, HM5, HB5, HF, HS9⟩
      ·
       rw [if_pos c1] at hs
       have HS9 := zA hs
       have C1 := zA c1
       clear hs c1
       go_wp2_with (first | (go_at_call 70; refine (between_f _ C1.out).mono ?_; rintro e w' ⟨rfl, nd9, rfl⟩))
       go_ret
       exact ⟨ret_int (HS9.out.symm.trans au.out), pw_below_drewN HB.out _⟩
     case rest =>
      clear BO BK HM HB HS
      obtain ⟨BO, BK, HM, HB, HF, HS⟩ := hcut
      replace BO := zA (blk_drew BO.out)
      replace BK := zA (blk_drew BK.out)
      replace HM : Aside0 (HasM wc.drew (fun a : Int => Value.int .i64 a) (fun b : Bool => Value.bool b) gm M) := ⟨HM.out.same rfl⟩
      replace HB := zA (below_drew1 HB.out)
      have key : ∀ (v : Bool) (W2 W3 : World), Below w.heap.size w W2 → W2.heap[af]? = some (.cells #[.slice ag ac.length ah, .slice ai ae.length aj, .slice (some ad) ab.length ak] 28 (0, 0)) → v = (gets || so) → HasM W3 (fun a : Int => Value.int .i64 a) (fun b : Bool => Value.bool b) gm ((of, v) :: M.filter fun p => decide (p.1 ≠ of)) → W2.mapTurned W3 gm →
        Below w.heap.size w W3 ∧ W3.heap[af]? = some (.cells #[.slice ag ac.length ah, .slice ai ae.length aj, .slice (some ad) ab.length ak] 28 (0, 0)) ∧ ∀ a, (getM ((of, v) :: M.filter fun p => decide (p.1 ≠ of)) a).getD false = metB ab (k + 1) a := by
       intro v W2 W3 hB2 hbk hv hM3 ht
       have hg := ht.grown
       refine ⟨⟨hg.os.trans hB2.os, hg.tape.trans hB2.tape, hg.output.trans hB2.output, Nat.le_trans hB2.size hg.size, fun i hi => (hg.block i (Nat.lt_of_lt_of_le hi hB2.size) (fun e => by injection e with e; have := GM.out; omega)).trans (hB2.block i hi)⟩, (hg.block af (blk_lt hbk) (fun e => by injection e with e; exact NG.out e)).trans hbk, fun a => ?_⟩
       rw [getM_put, HMB.out a]
       by_cases e : of = a
       ·
        subst e
        rw [if_pos rfl, decide_eq_true rfl, Bool.and_true, ← HGM.out]
        exact hv
       ·
        rw [if_neg e, decide_eq_false e, Bool.and_false, Bool.or_false]
        exact HI.out a
      have KEY := zA key
      clear key
      cases hgb : gets with
      | true =>
       have HG9 : Aside0 ((getM M of).getD false = true) := ⟨HG.out.symm.trans hgb⟩
       have HV : Aside0 (true = (gets || so)) := ⟨by rw [hgb]; rfl⟩
       clear hgb
       try go_wp2
       refine start_ (n := 12) (S := fun w' => w'.cell? ⟨go, 0, none⟩ = some (.int .i64 of) ∧ w'.cell? ⟨go, 1, none⟩ = some (.bool cp) ∧ HasM w' (fun a : Int => Value.int .i64 a) (fun b : Bool => Value.bool b) gm M) (ds := [11]) #[false, false, false, false, false, false, false, false, false, false, false, false] (by kernel_rfl) rfl rfl ⟨(blk_cell BO.out 0).trans rfl, (blk_cell BO.out 1).trans rfl, HM.out⟩ (fun hHeld => ?_); refine with_tabW edit_CheckPatchK.tab16 edit_CheckPatchK.bits16 (fun HT_ HW_ => ?_)
       generalize wc.drew = w8 at BO BK HM HB hHeld ⊢
       refine pureQ 0 (some 59) HT_ ?_
       refine pureQ 1 (some 60) HT_ ?_
       refine takeQ (v := ?_) (a' := ?_) 2 (some 61) HT_ HW_ hHeld ?_ ?_ ?_
       rotate_left
       ·
        rintro w' ⟨s0, s1, s2⟩
        go_simp
        with_reducible rfl
       rotate_left
       ·
        exact putQ
       refine pureQ 3 (some 62) HT_ ?_
       refine pureQ 4 (some 63) HT_ ?_
       refine takeQ (v := ?_) (a' := ?_) 5 (some 64) HT_ HW_ hHeld ?_ ?_ ?_
       rotate_left
       ·
        rintro w' ⟨s0, s1, s2⟩
        go_simp
        with_reducible rfl
       rotate_left
       ·
        exact putQ
       refine takeQ (v := ?_) (a' := ?_) 6 (some 65) HT_ HW_ hHeld ?_ ?_ ?_
       rotate_left
       ·
        rintro w' ⟨s0, s1, s2⟩
        have hlk := look_b s2 of
        rw [HG9.out] at hlk
        go_simp
        with_reducible rfl
       rotate_left
       ·
        exact putQ
       refine pureQ 7 (some 66) HT_ ?_
       refine pure_ (i := 8) (N := (some 67)) (v := undef) (a' := ?_) #[true, true, true, true, true, true, true, true, true, false, false, false] rfl rfl (any_of HT_.out (by kernel_rfl)) (fun _ _ _ h => h) (Or.inr ⟨by rfl, rfl⟩) ?_ ?_
       rotate_left
       ·
        exact putQ
       refine pure_ (i := 9) (N := (some 68)) (v := undef) (a' := ?_) #[true, true, true, true, true, true, true, true, true, true, false, false] rfl rfl (any_of HT_.out (by kernel_rfl)) (fun _ _ _ h => h) (Or.inr ⟨by rfl, rfl⟩) ?_ ?_
       rotate_left
       ·
        exact putQ
       refine pureQ 10 (some 69) HT_ ?_
       refine last_ (i := 11) (N := none) #[true, true, true, true, true, true, true, true, true, true, true, true] rfl rfl (one_of HT_.out (by kernel_rfl)) (by decide) (fun K hK => ?_)
       obtain ⟨W3, hrun3, hM3, ht3⟩ := HasM.store HM.out keyB3 Try.underlying135 of true
       refine skip_ (w1 := W3) (by rfl) rfl (by go_simp) ?_
       refine hK.out _ _ ?_
       clear hK K
       refine done_ (done_of HT_.out (by kernel_rfl)) ?_
       go_wp2
       go_roundg g1
       case measure => omega
       case rel =>
        obtain ⟨q1, q2, q3⟩ := KEY.out _ _ _ HB.out BK.out HV.out hM3 ht3
        exact ⟨k + 1, _, by go_num, by omega, by omega, HS, ⟨hM3⟩, ⟨q3⟩, ⟨q2⟩, ⟨q1⟩⟩
      | false =>
       have HG9 : Aside0 ((getM M of).getD false = false) := ⟨HG.out.symm.trans hgb⟩
       have HV : Aside0 ((decide (0 ≤ of) && !cp) = (gets || so)) := ⟨by rw [hgb, Bool.false_or]; exact HSO.out.symm⟩
       clear hgb
       try go_wp2
       refine start_ (n := 12) (S := fun w' => w'.cell? ⟨go, 0, none⟩ = some (.int .i64 of) ∧ w'.cell? ⟨go, 1, none⟩ = some (.bool cp) ∧ HasM w' (fun a : Int => Value.int .i64 a) (fun b : Bool => Value.bool b) gm M) (ds := [11]) #[false, false, false, false, false, false, false, false, false, false, false, false] (by kernel_rfl) rfl rfl ⟨(blk_cell BO.out 0).trans rfl, (blk_cell BO.out 1).trans rfl, HM.out⟩ (fun hHeld => ?_); refine with_tabW edit_CheckPatchK.tab16 edit_CheckPatchK.bits16 (fun HT_ HW_ => ?_)
       generalize wc.drew = w8 at BO BK HM HB hHeld ⊢
       refine pureQ 0 (some 59) HT_ ?_
       refine pureQ 1 (some 60) HT_ ?_
       refine takeQ (v := ?_) (a' := ?_) 2 (some 61) HT_ HW_ hHeld ?_ ?_ ?_
       rotate_left
       ·
        rintro w' ⟨s0, s1, s2⟩
        go_simp
        with_reducible rfl
       rotate_left
       ·
        exact putQ
       refine pureQ 3 (some 62) HT_ ?_
       refine pureQ 4 (some 63) HT_ ?_
       refine takeQ (v := ?_) (a' := ?_) 5 (some 64) HT_ HW_ hHeld ?_ ?_ ?_
       rotate_left
       ·
        rintro w' ⟨s0, s1, s2⟩
        go_simp
        with_reducible rfl
       rotate_left
       ·
        exact putQ
       refine takeQ (v := ?_) (a' := ?_) 6 (some 65) HT_ HW_ hHeld ?_ ?_ ?_
       rotate_left
       ·
        rintro w' ⟨s0, s1, s2⟩
        have hlk := look_b s2 of
        rw [HG9.out] at hlk
        go_simp
        with_reducible rfl
       rotate_left
       ·
        exact putQ
       refine pureQ 7 (some 66) HT_ ?_
       refine takeQ (v := ?_) (a' := ?_) 8 (some 67) HT_ HW_ hHeld ?_ ?_ ?_
       rotate_left
       ·
        rintro w' ⟨s0, s1, s2⟩
        go_simp
        with_reducible rfl
       rotate_left
       ·
        exact putQ
       refine one_ (i := 9) (N := (some 68)) #[true, true, true, true, true, true, true, true, true, true, false, false] rfl rfl (one_of HT_.out (by kernel_rfl)) (by decide) (fun K hK => ?_)
       refine goes_ Try.func71 (by kernel_rfl) rfl #[.agg #[.int .i64 of, .bool cp]] (by rfl) rfl rfl (by (try simp only [List.map_toArray, List.map_cons, List.map_nil]); first | done | rfl) ?_
       refine (self_c of cp _).mono ?_
       rintro e w9 ⟨rfl, hb9⟩
       have BO9 := zA (blk_keep BO.out hb9)
       have BK9 := zA (blk_keep BK.out hb9)
       have HM9 : Aside0 (HasM w9 (fun a : Int => Value.int .i64 a) (fun b : Bool => Value.bool b) gm M) := ⟨HM.out.same (hb9.block gm HM.out.lt)⟩
       have HB9 := zA (below_step HB.out hb9)
       refine ⟨_, rfl, ?_⟩
       refine hK.out _ _ ⟨(blk_cell BO9.out 0).trans rfl, (blk_cell BO9.out 1).trans rfl, HM9.out⟩ (fun hHeld => ?_)
       clear hK K
       refine normQ ?_
       refine pureQ 10 (some 69) HT_ ?_
       refine last_ (i := 11) (N := none) #[true, true, true, true, true, true, true, true, true, true, true, true] rfl rfl (one_of HT_.out (by kernel_rfl)) (by decide) (fun K hK => ?_)
       obtain ⟨W3, hrun3, hM3, ht3⟩ := HasM.store HM9.out keyB3 Try.underlying135 of (decide (0 ≤ of) && !cp)
       refine skip_ (w1 := W3) (by rfl) rfl (by go_simp) ?_
       refine hK.out _ _ ?_
       clear hK K
       refine done_ (done_of HT_.out (by kernel_rfl)) ?_
       go_wp2
       go_roundg g1
       case measure => omega
       case rel =>
        obtain ⟨q1, q2, q3⟩ := KEY.out _ _ _ HB9.out BK9.out HV.out hM3 ht3
        exact ⟨k + 1, _, by go_num, by omega, by omega, HS, ⟨hM3⟩, ⟨q3⟩, ⟨q2⟩, ⟨q1⟩⟩
    ·
     obtain rfl : k = ab.length := by omega
     have HS9 : Aside0 (r = 0) := ⟨HR.out.trans (by rw [Nat.sub_self]; rfl)⟩
     go_wp2
     go_ret
     exact ⟨ret_int (HS9.out.symm.trans au.out), HB.out⟩
  ·
   rw [if_neg c6] at H
   have c6b0 : ((ab.length : Int) == (ae.length : Int)) = false := beq_eq_false_iff_ne.mpr c6
   have c6b1 : ((ab.length : Int) != (ae.length : Int)) = true := bne_iff_ne.mpr c6
   have c6b2 : (ab.length == ae.length) = false := by first | simpa using c6 | (simp at c6 ⊢; omega)
   obtain rfl := Option.some.inj H
   go_enter Try.func34, Try.ntmps34
   try go_wp2_with (first | ((with_reducible refine gate_dst (N := 1) rfl ?_); refine box_event ?hg (N := 1) ?hd (cs := #[.slice ag ac.length ah, .slice ai ae.length aj, .slice al ab.length ak]) (t := 28) ?hr ?_; (case hd => rfl); (case hg => rfl); (case hr => first | (go_simp; done) | (go_simp; rfl)); intro af hg w15 hbox hb; have aa := zA (hbox); have aH := zA ((by rw [hg]; exact (below_size (zqA HB.out)) : w.heap.size ≤ af)); have am := zA ((by rw [hg]; exact (below_size (zqA HB.out)) : w.heap.size ≤ af)); replace HB := zA (below_step (zqA HB.out) hb); clear hb hbox hg))
   replace aa := zA (blk_drew aa.out)
   replace HB := zA (below_drew1 HB.out)
   refine start_ (n := 9) (S := fun w' => w'.cell? ⟨af, 0, none⟩ = some (.slice ag ac.length ah) ∧ w'.cell? ⟨af, 1, none⟩ = some (.slice ai ae.length aj) ∧ w'.cell? ⟨af, 2, none⟩ = some (.slice al ab.length ak)) (ds := []) #[false, false, false, false, false, false, false, false, false] (by kernel_rfl) rfl rfl ⟨(blk_cell aa.out 0).trans rfl, (blk_cell aa.out 1).trans rfl, (blk_cell aa.out 2).trans rfl⟩ (fun hHeld => ?_); refine with_tabW edit_CheckPatchK.tab1 edit_CheckPatchK.bits1 (fun HT_ HW_ => ?_)
   generalize w15.drew = w16 at aa HB hHeld ⊢
   refine pureQ 0 (some 7) HT_ ?_
   refine pureQ 3 (some 10) HT_ ?_
   refine takeQ (v := ?_) (a' := ?_) 1 (some 8) HT_ HW_ hHeld ?_ ?_ ?_
   rotate_left
   ·
    rintro w' ⟨s0, s1, s2⟩
    go_simp
    with_reducible rfl
   rotate_left
   ·
    exact putQ
   refine takeQ (v := ?_) (a' := ?_) 4 (some 11) HT_ HW_ hHeld ?_ ?_ ?_
   rotate_left
   ·
    rintro w' ⟨s0, s1, s2⟩
    go_simp
    with_reducible rfl
   rotate_left
   ·
    exact putQ
   refine one_ (i := 2) (N := some 9) #[true, true, true, true, true, false, false, false, false] rfl rfl (one_of HT_.out (by kernel_rfl)) (by decide) (fun K hK => ?_)
   refine goes_ Try.func19 (by kernel_rfl) rfl #[.slice ag ac.length ah] (by rfl) rfl rfl zqE ?_
   with_reducible refine (edit_Check.calls k _ _ ac t228 _ ?side1 ?side2 A2.out).mono ?_
   (case side1 => exact zqK (Kd.C_below ar.out HB.out))
   (case side2 => exact aw.out)
   rintro e w17 ⟨rfl, hb⟩
   refine ⟨_, rfl, ?_⟩
   replace aa := zA (blk_below (g := af) (o := .cells #[.slice ag ac.length ah, .slice ai ae.length aj, .slice al ab.length ak] 28 (0, 0)) (zqB aa.out) hb)
   replace HB := zA (below_step (zqG HB.out am.out) hb)
   refine hK.out _ _ ⟨(blk_cell aa.out 0).trans rfl, (blk_cell aa.out 1).trans rfl, (blk_cell aa.out 2).trans rfl⟩ (fun hHeld => ?_)
   clear hK K
   refine normQ ?_
   refine one_ (i := 5) (N := some 12) #[true, true, true, true, true, true, false, false, false] rfl rfl (one_of HT_.out (by kernel_rfl)) (by decide) (fun K hK => ?_)
   refine goes_ Try.func19 (by kernel_rfl) rfl #[.slice ai ae.length aj] (by rfl) rfl rfl zqE ?_
   with_reducible refine (edit_Check.calls k _ _ ae t229 _ ?side1 ?side2 A3.out).mono ?_
   (case side1 => exact zqK (Kd.C_below ax.out HB.out))
   (case side2 => exact ay.out)
   rintro e w18 ⟨rfl, hb⟩
   refine ⟨_, rfl, ?_⟩
   replace aa := zA (blk_below (g := af) (o := .cells #[.slice ag ac.length ah, .slice ai ae.length aj, .slice al ab.length ak] 28 (0, 0)) (zqB aa.out) hb)
   replace HB := zA (below_step (zqG HB.out am.out) hb)
   refine hK.out _ _ ⟨(blk_cell aa.out 0).trans rfl, (blk_cell aa.out 1).trans rfl, (blk_cell aa.out 2).trans rfl⟩ (fun hHeld => ?_)
   clear hK K
   refine normQ ?_
   refine one_ (i := 6) (N := some 13) #[true, true, true, true, true, true, true, false, false] rfl rfl (one_of HT_.out (by kernel_rfl)) (by decide) (fun K hK => ?_)
   refine Kd.R_lit_step (Kd.int .i64) _ 29 ?hg (N := 13) ?hd (xs := ([t228, t229] : List Int)) (inner := [.int .i64 t228, .int .i64 t229]) (ok := fun _ => True) (okp := fun _ => True) ?hr ?hp (fun _ hk => hk) trivial (Below.refl _ _) (Nat.le_refl _) (by simp) ?_; (case hd => rfl); (case hg => rfl); (case hr => first | (go_simp; done) | (go_simp; rfl)); (case hp => exact (Reps.one (show Kd.M (Kd.int .i64) _ _ _ t228 [.int .i64 t228] from rfl) (Reps.one (show Kd.M (Kd.int .i64) _ _ _ t229 [.int .i64 t229] from rfl) (Reps.none _ _))))
   intro v231 w19 ho20 hb hg_ hnew_
   clear hg_ hnew_
   (first | rw [← ap.out] at ho20 | (simp only [Int.reduceToNat] at ho20; rw [← ap.out] at ho20))
   have an := zA (Kd.R_lower ho20 (below_size (zqG HB.out am.out)))
   replace aa := zA (blk_below (g := af) (o := .cells #[.slice ag ac.length ah, .slice ai ae.length aj, .slice al ab.length ak] 28 (0, 0)) (zqB aa.out) hb)
   replace HB := zA (below_step (zqG HB.out am.out) hb)
   clear hb ho20
   obtain ⟨Ao21, co21, eo21⟩ := Kd.R_slice an.out
   (first | subst eo21 | (injection eo21 with f1_ f2_ f3_; have f4_ := f1_.symm; have f5_ := f3_.symm; clear f1_ f2_ f3_; subst f4_; subst f5_))
   refine hK.out _ _ ⟨(blk_cell aa.out 0).trans rfl, (blk_cell aa.out 1).trans rfl, (blk_cell aa.out 2).trans rfl⟩ (fun hHeld => ?_)
   clear hK K
   refine normQ ?_
   refine one_ (i := 7) (N := some 14) #[true, true, true, true, true, true, true, true, false] rfl rfl (one_of HT_.out (by kernel_rfl)) (by decide) (fun K hK => ?_)
   refine goes_ Try.func58 (by kernel_rfl) rfl #[.slice Ao21 y230.length co21] (by rfl) rfl rfl zqE ?_
   with_reducible refine (api_Errno.calls k _ _ y230 t233 _ ?side1 ?side2 A4.out).mono ?_
   (case side1 => exact zqK (Kd.R_reads' an.out).2.2)
   (case side2 => exact (Kd.R_reads' an.out).2.1)
   rintro e w' ⟨rfl, ⟨nd, rfl⟩⟩
   refine ⟨_, rfl, ?_⟩
   refine hK.out _ _ ⟨(blk_cell aa.out 0).trans rfl, (blk_cell aa.out 1).trans rfl, (blk_cell aa.out 2).trans rfl⟩ (fun hHeld => ?_)
   clear hK K
   refine normQ ?_
   refine pureQ 8 (some 3) HT_ ?_
   refine done_ (done_of HT_.out (by kernel_rfl)) ?_
   have hcz22_0 : w19.cell? ⟨af, 0, none⟩ = some (.slice ag ac.length ah) := (blk_cell aa.out 0).trans rfl
   have hcz22_1 : w19.cell? ⟨af, 1, none⟩ = some (.slice ai ae.length aj) := (blk_cell aa.out 1).trans rfl
   have hcz22_2 : w19.cell? ⟨af, 2, none⟩ = some (.slice al ab.length ak) := (blk_cell aa.out 2).trans rfl
   have hfz22_0 := blk_frozen aa.out 0
   have hfz22_1 := blk_frozen aa.out 1
   have hfz22_2 := blk_frozen aa.out 2
   try go_wp2
   go_ret
   exact ⟨zqR, zqG HB.out am.out⟩
 ·
  rw [if_neg c5] at H
  have c5b0 : (t233 == 0) = false := beq_eq_false_iff_ne.mpr c5
  have c5b1 : (t233 != 0) = true := bne_iff_ne.mpr c5
  obtain rfl := Option.some.inj H
  go_enter Try.func34, Try.ntmps34
  try go_wp2_with (first | ((with_reducible refine gate_dst (N := 1) rfl ?_); refine box_event ?hg (N := 1) ?hd (cs := #[.slice ag ac.length ah, .slice ai ae.length aj, .slice al ab.length ak]) (t := 28) ?hr ?_; (case hd => rfl); (case hg => rfl); (case hr => first | (go_simp; done) | (go_simp; rfl)); intro af hg w23 hbox hb; have aa := zA (hbox); have aH := zA ((by rw [hg]; exact (below_size (zqA HB.out)) : w.heap.size ≤ af)); have am := zA ((by rw [hg]; exact (below_size (zqA HB.out)) : w.heap.size ≤ af)); replace HB := zA (below_step (zqA HB.out) hb); clear hb hbox hg))
  replace aa := zA (blk_drew aa.out)
  replace HB := zA (below_drew1 HB.out)
  refine start_ (n := 9) (S := fun w' => w'.cell? ⟨af, 0, none⟩ = some (.slice ag ac.length ah) ∧ w'.cell? ⟨af, 1, none⟩ = some (.slice ai ae.length aj) ∧ w'.cell? ⟨af, 2, none⟩ = some (.slice al ab.length ak)) (ds := []) #[false, false, false, false, false, false, false, false, false] (by kernel_rfl) rfl rfl ⟨(blk_cell aa.out 0).trans rfl, (blk_cell aa.out 1).trans rfl, (blk_cell aa.out 2).trans rfl⟩ (fun hHeld => ?_); refine with_tabW edit_CheckPatchK.tab1 edit_CheckPatchK.bits1 (fun HT_ HW_ => ?_)
  generalize w23.drew = w24 at aa HB hHeld ⊢
  refine pureQ 0 (some 7) HT_ ?_
  refine pureQ 3 (some 10) HT_ ?_
  refine takeQ (v := ?_) (a' := ?_) 1 (some 8) HT_ HW_ hHeld ?_ ?_ ?_
  rotate_left
  ·
   rintro w' ⟨s0, s1, s2⟩
   go_simp
   with_reducible rfl
  rotate_left
  ·
   exact putQ
  refine takeQ (v := ?_) (a' := ?_) 4 (some 11) HT_ HW_ hHeld ?_ ?_ ?_
  rotate_left
  ·
   rintro w' ⟨s0, s1, s2⟩
   go_simp
   with_reducible rfl
  rotate_left
  ·
   exact putQ
  refine one_ (i := 2) (N := some 9) #[true, true, true, true, true, false, false, false, false] rfl rfl (one_of HT_.out (by kernel_rfl)) (by decide) (fun K hK => ?_)
  refine goes_ Try.func19 (by kernel_rfl) rfl #[.slice ag ac.length ah] (by rfl) rfl rfl zqE ?_
  with_reducible refine (edit_Check.calls k _ _ ac t228 _ ?side1 ?side2 A2.out).mono ?_
  (case side1 => exact zqK (Kd.C_below ar.out HB.out))
  (case side2 => exact aw.out)
  rintro e w25 ⟨rfl, hb⟩
  refine ⟨_, rfl, ?_⟩
  replace aa := zA (blk_below (g := af) (o := .cells #[.slice ag ac.length ah, .slice ai ae.length aj, .slice al ab.length ak] 28 (0, 0)) (zqB aa.out) hb)
  replace HB := zA (below_step (zqG HB.out am.out) hb)
  refine hK.out _ _ ⟨(blk_cell aa.out 0).trans rfl, (blk_cell aa.out 1).trans rfl, (blk_cell aa.out 2).trans rfl⟩ (fun hHeld => ?_)
  clear hK K
  refine normQ ?_
  refine one_ (i := 5) (N := some 12) #[true, true, true, true, true, true, false, false, false] rfl rfl (one_of HT_.out (by kernel_rfl)) (by decide) (fun K hK => ?_)
  refine goes_ Try.func19 (by kernel_rfl) rfl #[.slice ai ae.length aj] (by rfl) rfl rfl zqE ?_
  with_reducible refine (edit_Check.calls k _ _ ae t229 _ ?side1 ?side2 A3.out).mono ?_
  (case side1 => exact zqK (Kd.C_below ax.out HB.out))
  (case side2 => exact ay.out)
  rintro e w26 ⟨rfl, hb⟩
  refine ⟨_, rfl, ?_⟩
  replace aa := zA (blk_below (g := af) (o := .cells #[.slice ag ac.length ah, .slice ai ae.length aj, .slice al ab.length ak] 28 (0, 0)) (zqB aa.out) hb)
  replace HB := zA (below_step (zqG HB.out am.out) hb)
  refine hK.out _ _ ⟨(blk_cell aa.out 0).trans rfl, (blk_cell aa.out 1).trans rfl, (blk_cell aa.out 2).trans rfl⟩ (fun hHeld => ?_)
  clear hK K
  refine normQ ?_
  refine one_ (i := 6) (N := some 13) #[true, true, true, true, true, true, true, false, false] rfl rfl (one_of HT_.out (by kernel_rfl)) (by decide) (fun K hK => ?_)
  refine Kd.R_lit_step (Kd.int .i64) _ 29 ?hg (N := 13) ?hd (xs := ([t228, t229] : List Int)) (inner := [.int .i64 t228, .int .i64 t229]) (ok := fun _ => True) (okp := fun _ => True) ?hr ?hp (fun _ hk => hk) trivial (Below.refl _ _) (Nat.le_refl _) (by simp) ?_; (case hd => rfl); (case hg => rfl); (case hr => first | (go_simp; done) | (go_simp; rfl)); (case hp => exact (Reps.one (show Kd.M (Kd.int .i64) _ _ _ t228 [.int .i64 t228] from rfl) (Reps.one (show Kd.M (Kd.int .i64) _ _ _ t229 [.int .i64 t229] from rfl) (Reps.none _ _))))
  intro v231 w27 ho28 hb hg_ hnew_
  clear hg_ hnew_
  (first | rw [← ap.out] at ho28 | (simp only [Int.reduceToNat] at ho28; rw [← ap.out] at ho28))
  have an := zA (Kd.R_lower ho28 (below_size (zqG HB.out am.out)))
  replace aa := zA (blk_below (g := af) (o := .cells #[.slice ag ac.length ah, .slice ai ae.length aj, .slice al ab.length ak] 28 (0, 0)) (zqB aa.out) hb)
  replace HB := zA (below_step (zqG HB.out am.out) hb)
  clear hb ho28
  obtain ⟨Ao29, co29, eo29⟩ := Kd.R_slice an.out
  (first | subst eo29 | (injection eo29 with f1_ f2_ f3_; have f4_ := f1_.symm; have f5_ := f3_.symm; clear f1_ f2_ f3_; subst f4_; subst f5_))
  refine hK.out _ _ ⟨(blk_cell aa.out 0).trans rfl, (blk_cell aa.out 1).trans rfl, (blk_cell aa.out 2).trans rfl⟩ (fun hHeld => ?_)
  clear hK K
  refine normQ ?_
  refine one_ (i := 7) (N := some 14) #[true, true, true, true, true, true, true, true, false] rfl rfl (one_of HT_.out (by kernel_rfl)) (by decide) (fun K hK => ?_)
  refine goes_ Try.func58 (by kernel_rfl) rfl #[.slice Ao29 y230.length co29] (by rfl) rfl rfl zqE ?_
  with_reducible refine (api_Errno.calls k _ _ y230 t233 _ ?side1 ?side2 A4.out).mono ?_
  (case side1 => exact zqK (Kd.R_reads' an.out).2.2)
  (case side2 => exact (Kd.R_reads' an.out).2.1)
  rintro e w' ⟨rfl, ⟨nd, rfl⟩⟩
  refine ⟨_, rfl, ?_⟩
  refine hK.out _ _ ⟨(blk_cell aa.out 0).trans rfl, (blk_cell aa.out 1).trans rfl, (blk_cell aa.out 2).trans rfl⟩ (fun hHeld => ?_)
  clear hK K
  refine normQ ?_
  refine pureQ 8 (some 3) HT_ ?_
  refine done_ (done_of HT_.out (by kernel_rfl)) ?_
  try go_wp2
  go_ret
  exact ⟨zqR, zqG HB.out am.out⟩
def edit_CheckPatch.f (l0_0 : List S61) (l0_1 : List S61) (l0_2 : List S67) : Option Int := edit_CheckPatchK.f 40 l0_0 l0_1 l0_2
theorem edit_CheckPatch.calls (A0_0 : Option Addr) (c0_0 : Nat) (l0_0 : List (S61)) (A0_1 : Option Addr) (c0_1 : Nat) (l0_1 : List (S61)) (A0_2 : Option Addr) (c0_2 : Nat) (l0_2 : List (S67)) (r : Int) (w : World) (hr0_0 : Kd.C k61 w A0_0 l0_0.length l0_0) (hc0_0 : l0_0.length ≤ c0_0) (hr0_1 : Kd.C k61 w A0_1 l0_1.length l0_1) (hc0_1 : l0_1.length ≤ c0_1) (hr0_2 : Kd.C k67 w A0_2 l0_2.length l0_2) (hc0_2 : l0_2.length ≤ c0_2) (h : edit_CheckPatch.f l0_0 l0_1 l0_2 = some r) :
    Calls Try.prog 34 #[.agg #[.slice A0_0 l0_0.length c0_0, .slice A0_1 l0_1.length c0_1, .slice A0_2 l0_2.length c0_2]] w fun e w' => e = .returned (.int .i64 r) ∧ Below w.heap.size w w' :=
  edit_CheckPatchK.calls 40 A0_0 c0_0 l0_0 A0_1 c0_1 l0_1 A0_2 c0_2 l0_2 r w hr0_0 hc0_0 hr0_1 hc0_1 hr0_2 hc0_2 h
end Go.Proofs.Ytehpbmdphfbooaa.P
end
