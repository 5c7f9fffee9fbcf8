/- Words and contracts for a claim. -/
import Derived.Test.YtehpbmdphfbooaaBase10

section
namespace Go.Proofs.Ytehpbmdphfbooaa.P
open Go.RowKit Go.Proofs.YtehpbmdphfbooaaW.PrintWords Go.Proofs.YtehpbmdphfbooaaW.PrintLast Go.Proofs.YtehpbmdphfbooaaW.PrintMore
attribute [local go_sem] max2_int min2_int max_two min_two max_three min_three max_four min_four
set_option linter.unusedVariables false
set_option linter.unusedSimpArgs false
attribute [local go_sem high] eqA61
theorem wrap64_in (n : Int) (h : -9223372036854775808 ≤ n ∧ n ≤ 9223372036854775807) : wrap64 n = n := by unfold wrap64; omega
def meetE (l : List S108) : Option (List S108 × Int) := if (l.map plc).Nodup then (if 30 < l.length then some ([], 5) else some (l, 0)) else some ([], 15)
theorem look179 {w : World} {gm : Nat} {M : List ((Int × Int) × Bool)} (h : HasM w ekP (fun b : Bool => Value.bool b) gm M) (a b : Int) : (Instr.lookup 179 (.map (some gm)) (.agg #[.int .i64 a, .int .i64 b]) false).run Try.prog w = .ok (.bool ((getM M (a, b)).getD false)) w := by
  refine (h.look keyP Try.underlying179 (show (zeroValue 4).run Try.prog w = .ok (.bool false) w by kernel_rfl) (a, b)).trans ?_
  cases getM M (a, b) <;> rfl
theorem store179 {w : World} {gm : Nat} {M : List ((Int × Int) × Bool)} (h : HasM w ekP (fun b : Bool => Value.bool b) gm M) (a b : Int) : ∃ w', (Instr.mapUpdate 179 (.map (some gm)) (.agg #[.int .i64 a, .int .i64 b]) (.bool true)).run Try.prog w = .ok () w' ∧ HasM w' ekP (fun b : Bool => Value.bool b) gm (((a, b), true) :: M.filter fun p => decide (p.1 ≠ (a, b))) ∧ w.mapTurned w' gm :=
  h.store keyP Try.underlying179 (a, b) true
theorem take_plc {l : List S108} {k : Nat} (h : k < l.length) : (l.take (k + 1)).map plc = (l.take k).map plc ++ [plc (rd_T108 l (k : Int))] := by
  rw [List.take_succ_eq_append_getElem h, List.map_append]
  unfold rd_T108
  rw [Int.toNat_natCast, List.getD_eq_getElem?_getD, List.getElem?_eq_getElem h]
  rfl
theorem nodup_snoc {l : List (Int × Int)} {a : Int × Int} : (l ++ [a]).Nodup ↔ l.Nodup ∧ a ∉ l := by
  rw [List.nodup_append]
  simp
  intro _
  exact ⟨fun h h1 => h _ _ h1 rfl, fun h x y h1 e => h (by rw [← e]; exact h1)⟩
mutual
def edit_meet.l0 : Nat → List (S108) → List (S61) → Int → Int → List (S61) → List (S61) → List (S67) → List (S61) → List (S61) → List (S67) → Option ((List (S108)) × Int)
  | 0, _, _, _, _, _, _, _, _, _, _ => none
  | k + 1, x6, x22, x23, x24, x234000, x234001, x234002, x235000, x235001, x235002 => if x24 < x23 then (if 0 ≤ x24 then (if x24 < (x22.length : Int) then ((edit_Patch_kept.f k x234000 x234001 x234002 x24).bind fun t237 => ((edit_Patch_kept.f k x235000 x235001 x235002 x24).bind fun t238 => (if t237 ≥ 0 then (if 0 ≤ t237 then (if t237 < (x234001.length : Int) then (edit_meet.j1 k x6 x24 t237 t238 x22 x23 x24 x234000 x234001 x234002 x235000 x235001 x235002 ((rd_T61 x22 x24).f0) ((rd_T61 x22 x24).f1) ((rd_T61 x22 x24).f2) ((rd_T61 x234001 t237).f0) ((rd_T61 x234001 t237).f1) ((rd_T61 x234001 t237).f2) 0 0 0) else (none)) else (none)) else (edit_meet.j1 k x6 x24 t237 t238 x22 x23 x24 x234000 x234001 x234002 x235000 x235001 x235002 ((rd_T61 x22 x24).f0) ((rd_T61 x22 x24).f1) ((rd_T61 x22 x24).f2) 0 0 0 0 0 0)))) else (none)) else (none)) else (edit_meet.l1 k x6 x234002 (x234002.length : Int) 0 x234000 x234001 x234002 x235000 x235001 x235002)
def edit_meet.j1 : Nat → List (S108) → Int → Int → Int → List (S61) → Int → Int → List (S61) → List (S61) → List (S67) → List (S61) → List (S61) → List (S67) → Int → Int → Int → Int → Int → Int → Int → Int → Int → Option ((List (S108)) × Int)
  | 0, _, _, _, _, _, _, _, _, _, _, _, _, _, _, _, _, _, _, _, _, _, _ => none
  | k + 1, x6, x7, x9, x10, x22, x23, x24, x234000, x234001, x234002, x235000, x235001, x235002, x237000, x237001, x237002, x240000, x240001, x240002, x241000, x241001, x241002 => if x10 ≥ 0 then (if 0 ≤ x10 then (if x10 < (x235001.length : Int) then (edit_meet.j2 k x6 x7 x9 x10 x22 x23 x24 x234000 x234001 x234002 x235000 x235001 x235002 x237000 x237001 x237002 x240000 x240001 x240002 ((rd_T61 x235001 x10).f0) ((rd_T61 x235001 x10).f1) ((rd_T61 x235001 x10).f2)) else (none)) else (none)) else (edit_meet.j2 k x6 x7 x9 x10 x22 x23 x24 x234000 x234001 x234002 x235000 x235001 x235002 x237000 x237001 x237002 x240000 x240001 x240002 x241000 x241001 x241002)
def edit_meet.j2 : Nat → List (S108) → Int → Int → Int → List (S61) → Int → Int → List (S61) → List (S61) → List (S67) → List (S61) → List (S61) → List (S67) → Int → Int → Int → Int → Int → Int → Int → Int → Int → Option ((List (S108)) × Int)
  | 0, _, _, _, _, _, _, _, _, _, _, _, _, _, _, _, _, _, _, _, _, _, _ => none
  | k + 1, x6, x7, x9, x10, x22, x23, x24, x234000, x234001, x234002, x235000, x235001, x235002, x237000, x237001, x237002, x240000, x240001, x240002, x241000, x241001, x241002 => if (!(x240000 == x237000) || (!(x240001 == x237001) || (!(x240002 == x237002)))) = true then (if (!(x241000 == x237000) || (!(x241001 == x237001) || (!(x241002 == x237002)))) = true then (edit_meet.j3 k x6 x7 x9 x10 x22 x23 x24 (!(x240000 == x241000) || (!(x240001 == x241001) || (!(x240002 == x241002)))) x234000 x234001 x234002 x235000 x235001 x235002 x237000 x237001 x237002 x240000 x240001 x240002 x241000 x241001 x241002) else (edit_meet.j3 k x6 x7 x9 x10 x22 x23 x24 false x234000 x234001 x234002 x235000 x235001 x235002 x237000 x237001 x237002 x240000 x240001 x240002 x241000 x241001 x241002)) else (edit_meet.j3 k x6 x7 x9 x10 x22 x23 x24 false x234000 x234001 x234002 x235000 x235001 x235002 x237000 x237001 x237002 x240000 x240001 x240002 x241000 x241001 x241002)
def edit_meet.j3 : Nat → List (S108) → Int → Int → Int → List (S61) → Int → Int → Bool → List (S61) → List (S61) → List (S67) → List (S61) → List (S61) → List (S67) → Int → Int → Int → Int → Int → Int → Int → Int → Int → Option ((List (S108)) × Int)
  | 0, _, _, _, _, _, _, _, _, _, _, _, _, _, _, _, _, _, _, _, _, _, _, _ => none
  | k + 1, x6, x7, x9, x10, x22, x23, x24, x49, x234000, x234001, x234002, x235000, x235001, x235002, x237000, x237001, x237002, x240000, x240001, x240002, x241000, x241001, x241002 => if x49 = true then (edit_meet.j4 k x6 x7 x9 x10 x22 x23 x24 x49 x234000 x234001 x234002 x235000 x235001 x235002 x237000 x237001 x237002 x240000 x240001 x240002 x241000 x241001 x241002) else (if x9 < 0 then ((edit_Patch_copies.f k x235000 x235001 x235002 x7).bind fun t243 => (if t243 > 0 then (edit_meet.j4 k x6 x7 x9 x10 x22 x23 x24 (decide (t243 > 0)) x234000 x234001 x234002 x235000 x235001 x235002 x237000 x237001 x237002 x240000 x240001 x240002 x241000 x241001 x241002) else (if x10 < 0 then ((edit_Patch_copies.f k x234000 x234001 x234002 x7).bind fun t244 => (edit_meet.j4 k x6 x7 x9 x10 x22 x23 x24 (decide (t244 > 0)) x234000 x234001 x234002 x235000 x235001 x235002 x237000 x237001 x237002 x240000 x240001 x240002 x241000 x241001 x241002)) else (edit_meet.j4 k x6 x7 x9 x10 x22 x23 x24 false x234000 x234001 x234002 x235000 x235001 x235002 x237000 x237001 x237002 x240000 x240001 x240002 x241000 x241001 x241002)))) else (if x10 < 0 then ((edit_Patch_copies.f k x234000 x234001 x234002 x7).bind fun t245 => (edit_meet.j4 k x6 x7 x9 x10 x22 x23 x24 (decide (t245 > 0)) x234000 x234001 x234002 x235000 x235001 x235002 x237000 x237001 x237002 x240000 x240001 x240002 x241000 x241001 x241002)) else (edit_meet.j4 k x6 x7 x9 x10 x22 x23 x24 false x234000 x234001 x234002 x235000 x235001 x235002 x237000 x237001 x237002 x240000 x240001 x240002 x241000 x241001 x241002)))
def edit_meet.j4 : Nat → List (S108) → Int → Int → Int → List (S61) → Int → Int → Bool → List (S61) → List (S61) → List (S67) → List (S61) → List (S61) → List (S67) → Int → Int → Int → Int → Int → Int → Int → Int → Int → Option ((List (S108)) × Int)
  | 0, _, _, _, _, _, _, _, _, _, _, _, _, _, _, _, _, _, _, _, _, _, _, _ => none
  | k + 1, x6, x7, x9, x10, x22, x23, x24, x49, x234000, x234001, x234002, x235000, x235001, x235002, x237000, x237001, x237002, x240000, x240001, x240002, x241000, x241001, x241002 => if x49 = true then (some (([] : List (S108)), 15)) else (if x9 < 0 then (edit_meet.j5 k x6 x7 x9 x22 x23 x24 true x234000 x234001 x234002 x235000 x235001 x235002 x237000 x237001 x237002 x240000 x240001 x240002 x241000 x241001 x241002) else (edit_meet.j5 k x6 x7 x9 x22 x23 x24 (decide (x10 < 0)) x234000 x234001 x234002 x235000 x235001 x235002 x237000 x237001 x237002 x240000 x240001 x240002 x241000 x241001 x241002))
def edit_meet.j5 : Nat → List (S108) → Int → Int → List (S61) → Int → Int → Bool → List (S61) → List (S61) → List (S67) → List (S61) → List (S61) → List (S67) → Int → Int → Int → Int → Int → Int → Int → Int → Int → Option ((List (S108)) × Int)
  | 0, _, _, _, _, _, _, _, _, _, _, _, _, _, _, _, _, _, _, _, _, _, _ => none
  | k + 1, x6, x7, x9, x22, x23, x24, x79, x234000, x234001, x234002, x235000, x235001, x235002, x237000, x237001, x237002, x240000, x240001, x240002, x241000, x241001, x241002 => if x79 = true then (edit_meet.l0 k x6 x22 x23 (wrap64 (x24 + 1)) x234000 x234001 x234002 x235000 x235001 x235002) else (if (x240000 == x237000 && (x240001 == x237001 && (x240002 == x237002))) = true then (if x6.length < 2513169434916 then (edit_meet.l0 k (x6 ++ [(⟨(⟨x241000, x241001, x241002⟩ : S61), (⟨x7, false⟩ : S67), (⟨x9, false⟩ : S67)⟩ : S108)]) x22 x23 (wrap64 (x24 + 1)) x234000 x234001 x234002 x235000 x235001 x235002) else (none)) else (if x6.length < 2513169434916 then (edit_meet.l0 k (x6 ++ [(⟨(⟨x240000, x240001, x240002⟩ : S61), (⟨x7, false⟩ : S67), (⟨x9, false⟩ : S67)⟩ : S108)]) x22 x23 (wrap64 (x24 + 1)) x234000 x234001 x234002 x235000 x235001 x235002) else (none)))
def edit_meet.l1 : Nat → List (S108) → List (S67) → Int → Int → List (S61) → List (S61) → List (S67) → List (S61) → List (S61) → List (S67) → Option ((List (S108)) × Int)
  | 0, _, _, _, _, _, _, _, _, _, _ => none
  | k + 1, x6, x102, x103, x104, x234000, x234001, x234002, x235000, x235001, x235002 => if x104 < x103 then (if 0 ≤ x104 then (if x104 < (x102.length : Int) then ((edit_Origin_self.f ((rd_T67 x102 x104).f0) ((rd_T67 x102 x104).f1)).bind fun t254 => (if t254 = true then (edit_meet.l1 k x6 x102 x103 (wrap64 (x104 + 1)) x234000 x234001 x234002 x235000 x235001 x235002) else (if x104 < (x234001.length : Int) then (if x6.length < 2513169434916 then (edit_meet.l1 k (x6 ++ [(⟨(⟨(rd_T61 x234001 x104).f0, (rd_T61 x234001 x104).f1, (rd_T61 x234001 x104).f2⟩ : S61), (⟨(rd_T67 x102 x104).f0, (rd_T67 x102 x104).f1⟩ : S67), (⟨x104, false⟩ : S67)⟩ : S108)]) x102 x103 (wrap64 (x104 + 1)) x234000 x234001 x234002 x235000 x235001 x235002) else (none)) else (none)))) else (none)) else (none)) else (edit_meet.l2 k x6 x235002 (x235002.length : Int) 0 x234000 x234001 x234002 x235000 x235001 x235002)
def edit_meet.l2 : Nat → List (S108) → List (S67) → Int → Int → List (S61) → List (S61) → List (S67) → List (S61) → List (S61) → List (S67) → Option ((List (S108)) × Int)
  | 0, _, _, _, _, _, _, _, _, _, _ => none
  | k + 1, x6, x126, x127, x128, x234000, x234001, x234002, x235000, x235001, x235002 => if x128 < x127 then (if 0 ≤ x128 then (if x128 < (x126.length : Int) then ((edit_Origin_self.f ((rd_T67 x126 x128).f0) ((rd_T67 x126 x128).f1)).bind fun t261 => (if t261 = true then (edit_meet.l2 k x6 x126 x127 (wrap64 (x128 + 1)) x234000 x234001 x234002 x235000 x235001 x235002) else (if (rd_T67 x126 x128).f1 = true then ((edit_Patch_kept.f k x234000 x234001 x234002 ((rd_T67 x126 x128).f0)).bind fun t263 => (if x128 < (x235001.length : Int) then (if x6.length < 2513169434916 then (edit_meet.l2 k (x6 ++ [(⟨(⟨(rd_T61 x235001 x128).f0, (rd_T61 x235001 x128).f1, (rd_T61 x235001 x128).f2⟩ : S61), (⟨(rd_T67 x126 x128).f0, (rd_T67 x126 x128).f1⟩ : S67), (⟨t263, (rd_T67 x126 x128).f1⟩ : S67)⟩ : S108)]) x126 x127 (wrap64 (x128 + 1)) x234000 x234001 x234002 x235000 x235001 x235002) else (none)) else (none))) else (if x128 < (x235001.length : Int) then (if x6.length < 2513169434916 then (edit_meet.l2 k (x6 ++ [(⟨(⟨(rd_T61 x235001 x128).f0, (rd_T61 x235001 x128).f1, (rd_T61 x235001 x128).f2⟩ : S61), (⟨(rd_T67 x126 x128).f0, (rd_T67 x126 x128).f1⟩ : S67), (⟨(rd_T67 x126 x128).f0, (rd_T67 x126 x128).f1⟩ : S67)⟩ : S108)]) x126 x127 (wrap64 (x128 + 1)) x234000 x234001 x234002 x235000 x235001 x235002) else (none)) else (none))))) else (none)) else (none)) else (meetE x6)
end
def edit_meet.f (k : Nat) (l0_0 : List (S61)) (l0_1 : List (S61)) (l0_2 : List (S67)) (l1_0 : List (S61)) (l1_1 : List (S61)) (l1_2 : List (S67)) : Option ((List (S108)) × Int) := edit_meet.l0 k ([] : List (S108)) l0_0 (l0_0.length : Int) 0 l0_0 l0_1 l0_2 l1_0 l1_1 l1_2
def edit_meet.T5 : Bool × List (List Nat × List Nat) := (true, [([], []), ([], []), ([0, 1], [0, 1]), ([], []), ([], []), ([3, 4, 2], [3, 4]), ([2, 5, 0, 1, 2], [2]), ([5, 6, 0, 1, 2, 3, 4, 5, 6], [5])])
def edit_meet.B5 : List Nat := [0, 0, 3, 0, 0, 31, 63, 127]
theorem edit_meet.tab5 : rtab .any (opsOf Try.f93 5) = edit_meet.T5 := by kernel_rfl
theorem edit_meet.bits5 : waitsOk edit_meet.T5.2 edit_meet.B5 = true := by kernel_rfl
def edit_meet.T24 : Bool × List (List Nat × List Nat) := (true, [([], []), ([], []), ([1], [1]), ([], []), ([2, 3], [2, 3]), ([4], [4]), ([], []), ([], []), ([7], [7]), ([5, 6, 8], [5, 6, 8]), ([9], [9]), ([0, 10], [0, 10]), ([11, 11, 0, 1, 2, 3, 4, 5, 6, 7, 8, 9, 10, 11], [0, 11])])
def edit_meet.B24 : List Nat := [0, 0, 2, 0, 14, 30, 0, 0, 128, 510, 1022, 2047, 4095]
theorem edit_meet.tab24 : rtab .any (opsOf Try.f93 24) = edit_meet.T24 := by kernel_rfl
theorem edit_meet.bits24 : waitsOk edit_meet.T24.2 edit_meet.B24 = true := by kernel_rfl
def edit_meet.T33 : Bool × List (List Nat × List Nat) := (true, [([], []), ([], []), ([1], [1]), ([], []), ([2, 3], [2, 3]), ([4], [4]), ([], []), ([], []), ([5, 6, 7], [5, 6, 7]), ([8], [8]), ([0, 9], [0, 9]), ([10, 10, 0, 1, 2, 3, 4, 5, 6, 7, 8, 9, 10], [0, 10])])
def edit_meet.B33 : List Nat := [0, 0, 2, 0, 14, 30, 0, 0, 254, 510, 1023, 2047]
theorem edit_meet.tab33 : rtab .any (opsOf Try.f93 33) = edit_meet.T33 := by kernel_rfl
theorem edit_meet.bits33 : waitsOk edit_meet.T33.2 edit_meet.B33 = true := by kernel_rfl
set_option maxHeartbeats 8000000 in
set_option maxRecDepth 100000 in
theorem edit_meet.calls (k : Nat) (aK : Option Addr) (ar : Nat) (aa : List (S61)) (aw : Option Addr) (au : Nat) (ah : List (S61)) (aE : Option Addr) (av : Nat) (ae : List (S67)) (ax : Option Addr) (ay : Nat) (ai : List (S61)) (aD : Option Addr) (az : Nat) (ac : List (S61)) (aM : Option Addr) (aA : Nat) (ab : List (S67)) (r1 : List (S108)) (r2 : Int) (w : World) (bZ : Kd.C k61 w aK aa.length aa) (b2 : aa.length ≤ ar) (b3 : Kd.C k61 w aw ah.length ah) (b4 : ah.length ≤ au) (b5 : Kd.C k67 w aE ae.length ae) (b6 : ae.length ≤ av) (b7 : Kd.C k61 w ax ai.length ai) (b8 : ai.length ≤ ay) (b9 : Kd.C k61 w aD ac.length ac) (ca : ac.length ≤ az) (cb : Kd.C k67 w aM ab.length ab) (cc : ab.length ≤ aA) (h : edit_meet.f k aa ah ae ai ac ab = some (r1, r2)) :
  Calls Try.prog 93 #[.agg #[.slice aK aa.length ar, .slice aw ah.length au, .slice aE ae.length av], .agg #[.slice ax ai.length ay, .slice aD ac.length az, .slice aM ab.length aA]] w fun e w' => ∃ v0_ : Value, e = .returned (.tuple #[v0_, .int .i64 r2]) ∧ Kd.R k108 108 w' w.heap.size (fun _ => True) v0_ r1 ∧ Below w.heap.size w w' := by
 have hu28 := Try.underlying28
 have hu61 := Try.underlying61
 have hu67 := Try.underlying67
 have hu108 := Try.underlying108
 have bA := zA bZ
 have bD := zA b2
 clear bZ b2
 have bv := zA b3
 have bE := zA b4
 clear b3 b4
 have bw := zA b5
 have bF := zA b6
 clear b5 b6
 have bG := zA b7
 have bH := zA b8
 clear b7 b8
 have bo := zA b9
 have bI := zA ca
 clear b9 ca
 have bp := zA cb
 have bJ := zA cc
 clear cb cc
 have HB := zA (Below.refl w.heap.size w)
 have H : (edit_meet.l0 k ([] : List (S108)) aa (aa.length : Int) 0 aa ah ae ai ac ab) = some (r1, r2) := h
 clear h
 have H' := zA H
 clear H
 go_enter Try.func93, Try.ntmps93
 go_wp2_with (first | ((with_reducible refine gate_dst (N := 2) rfl ?_); refine box_event ?hg (N := 2) ?hd (cs := #[.slice aK aa.length ar, .slice aw ah.length au, .slice aE ae.length av]) (t := 28) ?hr ?_; (case hd => rfl); (case hg => rfl); (case hr => first | (go_simp; done) | (go_simp; rfl)); intro ak hg w3 hbox hb; have af := zA (hbox); have GW233 := zA ((by rw [hg]; exact (below_size (zqA HB.out)) : w.heap.size ≤ ak)); have an := zA ((by rw [hg]; exact (below_size (zqA HB.out)) : w.heap.size ≤ ak)); replace HB := zA (below_step (zqA HB.out) hb); clear hb hbox hg) | ((with_reducible refine gate_dst (N := 3) rfl ?_); refine box_event ?hg (N := 3) ?hd (cs := #[.slice ax ai.length ay, .slice aD ac.length az, .slice aM ab.length aA]) (t := 28) ?hr ?_; (case hd => rfl); (case hg => rfl); (case hr => first | (go_simp; done) | (go_simp; rfl)); intro al hg w4 hbox hb; have ag := zA (hbox); have GW234 := zA ((by rw [hg]; exact (below_size (zqG HB.out an.out)) : w.heap.size ≤ al)); have ao := zA ((by rw [hg]; exact (below_size (zqG HB.out an.out)) : w.heap.size ≤ al)); replace HB := zA (below_step (zqG HB.out an.out) hb); have bb := zA ((by rw [hg]; exact Nat.ne_of_lt (blk_lt (g := ak) (o := .cells #[.slice aK aa.length ar, .slice aw ah.length au, .slice aE ae.length av] 28 (0, 0)) (zqB af.out)) : ak ≠ al)); have bc := zA ((by rw [hg]; exact Nat.ne_of_gt (blk_lt (g := ak) (o := .cells #[.slice aK aa.length ar, .slice aw ah.length au, .slice aE ae.length av] 28 (0, 0)) (zqB af.out)) : al ≠ ak)); replace af := zA (blk_below (g := ak) (o := .cells #[.slice aK aa.length ar, .slice aw ah.length au, .slice aE ae.length av] 28 (0, 0)) (zqB af.out) hb); clear hb hbox hg; have hnb5 := bb.out; have hnc5 := bc.out; have hcz6_0 : w4.cell? ⟨ak, 0, none⟩ = some (.slice aK aa.length ar) := (blk_cell af.out 0).trans rfl; have hcz6_1 : w4.cell? ⟨ak, 1, none⟩ = some (.slice aw ah.length au) := (blk_cell af.out 1).trans rfl; have hcz6_2 : w4.cell? ⟨ak, 2, none⟩ = some (.slice aE ae.length av) := (blk_cell af.out 2).trans rfl; have hfz6_0 := blk_frozen af.out 0; have hfz6_1 := blk_frozen af.out 1; have hfz6_2 := blk_frozen af.out 2))
 go_loopg [6, 24] k (fun kq v6 v24 w' => ∃ (x6_1 : List (S108)) (x24_1 : Int), v24 = .int .i64 x24_1 ∧ Aside0 (edit_meet.l0 kq x6_1 aa (aa.length : Int) x24_1 aa ah ae ai ac ab = some (r1, r2)) ∧ Aside0 (kq ≤ k) ∧ Aside0 (Kd.R k108 108 w' w.heap.size (fun _ => True) v6 x6_1) ∧ Aside0 (w'.heap[ak]? = some (.cells #[(.slice aK aa.length ar), (.slice aw ah.length au), (.slice aE ae.length av)] 28 (0, 0))) ∧ Aside0 (w'.heap[al]? = some (.cells #[(.slice ax ai.length ay), (.slice aD ac.length az), (.slice aM ab.length aA)] 28 (0, 0))) ∧ Aside0 (Below w.heap.size w w'))
 case atStart => exact ⟨(([] : List (S108))), (0), zqQ, H', ⟨Nat.le_refl _⟩, ⟨by first | exact Kd.R_nil _ _ _ _ _ | exact Kd.N_nil _ _ _ _ _ | exact Kd.V_nil _ _ _ _ _ | exact Kd.Q_nil _ _ _ _ _ | exact Kd.S_nil _ _ _ _ _⟩, ⟨zqB af.out⟩, ⟨zqB ag.out⟩, ⟨zqH HB.out an.out ao.out⟩⟩
 case round =>
  clear H'
  obtain ⟨x6_1, x24_1, rfl, HA, HK1, aj, af, ag, HB⟩ := hrel
  cases gk with
  | zero => exact absurd HA.out (by simp [edit_meet.l0])
  | succ k1 =>
   have H := HA.out
   clear HA
   simp only [edit_meet.l0] at H
   by_cases c7 : x24_1 < (aa.length : Int)
   ·
    rw [if_pos c7] at H
    have c7b0 : decide (x24_1 < (aa.length : Int)) = true := decide_eq_true c7
    clear c7
    by_cases c8 : 0 ≤ x24_1
    ·
     rw [if_pos c8] at H
     have c8b0 : decide (0 ≤ x24_1) = true := decide_eq_true c8
     clear c8
     by_cases c9 : x24_1 < (aa.length : Int)
     ·
      rw [if_pos c9] at H
      have c9b0 : decide (x24_1 < (aa.length : Int)) = true := decide_eq_true c9
      clear c9
      replace H := Option.bind_eq_some_iff.mp H
      obtain ⟨t237, A100, H⟩ := H
      replace H : ((edit_Patch_kept.f k1 ai ac ab x24_1).bind fun t238 => (if t237 ≥ 0 then (if 0 ≤ t237 then (if t237 < (ah.length : Int) then (edit_meet.j1 k1 x6_1 x24_1 t237 t238 aa (aa.length : Int) x24_1 aa ah ae ai ac ab ((rd_T61 aa x24_1).f0) ((rd_T61 aa x24_1).f1) ((rd_T61 aa x24_1).f2) ((rd_T61 ah t237).f0) ((rd_T61 ah t237).f1) ((rd_T61 ah t237).f2) 0 0 0) else (none)) else (none)) else (edit_meet.j1 k1 x6_1 x24_1 t237 t238 aa (aa.length : Int) x24_1 aa ah ae ai ac ab ((rd_T61 aa x24_1).f0) ((rd_T61 aa x24_1).f1) ((rd_T61 aa x24_1).f2) 0 0 0 0 0 0))) = some (r1, r2) := H
      have A10 := zA A100
      clear A100
      replace H := Option.bind_eq_some_iff.mp H
      obtain ⟨t238, A110, H⟩ := H
      replace H : (if t237 ≥ 0 then (if 0 ≤ t237 then (if t237 < (ah.length : Int) then (edit_meet.j1 k1 x6_1 x24_1 t237 t238 aa (aa.length : Int) x24_1 aa ah ae ai ac ab ((rd_T61 aa x24_1).f0) ((rd_T61 aa x24_1).f1) ((rd_T61 aa x24_1).f2) ((rd_T61 ah t237).f0) ((rd_T61 ah t237).f1) ((rd_T61 ah t237).f2) 0 0 0) else (none)) else (none)) else (edit_meet.j1 k1 x6_1 x24_1 t237 t238 aa (aa.length : Int) x24_1 aa ah ae ai ac ab ((rd_T61 aa x24_1).f0) ((rd_T61 aa x24_1).f1) ((rd_T61 aa x24_1).f2) 0 0 0 0 0 0)) = some (r1, r2) := H
      have A11 := zA A110
      clear A110
      have bK := zA H
      clear H
      have p235 : 0 ≤ (x24_1 : Int) := of_decide_eq_true (zqD)
      have q235 : x24_1 < (aa.length : Int) := of_decide_eq_true (zqD)
      obtain ⟨ad235, e235, hx235_0, hx235_1, hx235_2⟩ := at_T61 bA.out x24_1 p235 q235
      cases e235
      replace hx235_0 := (HB.out.cell (World.block_lt_of_cell? w _ hx235_0)).trans hx235_0
      replace hx235_1 := (HB.out.cell (World.block_lt_of_cell? w _ hx235_1)).trans hx235_1
      replace hx235_2 := (HB.out.cell (World.block_lt_of_cell? w _ hx235_2)).trans hx235_2
      replace p235 := eq_true p235; replace q235 := eq_true q235
      try go_wp2_with (first | ((with_reducible refine gate_dst (N := 8) rfl ?_); refine box_event ?hg (N := 8) ?hd (cs := #[.int .i64 0, .int .i64 0, .int .i64 0]) (t := 61) ?hr ?_; (case hd => rfl); (case hg => rfl); (case hr => first | (go_simp; done) | (go_simp; rfl)); intro aC hg w13 hbox hb; replace aj := zA (Kd.R_below (zqC aj.out) hb); have am := zA (hbox); have GW236 := zA ((by rw [hg]; exact (below_size (zqH HB.out an.out ao.out)) : w.heap.size ≤ aC)); have aR := zA ((by rw [hg]; exact (below_size (zqH HB.out an.out ao.out)) : w.heap.size ≤ aC)); replace HB := zA (below_step (zqH HB.out an.out ao.out) hb); have a7 := zA ((by rw [hg]; exact Nat.ne_of_lt (blk_lt (g := ak) (o := .cells #[.slice (some ad235) aa.length ar, .slice aw ah.length au, .slice aE ae.length av] 28 (0, 0)) (zqB af.out)) : ak ≠ aC)); have bi := zA ((by rw [hg]; exact Nat.ne_of_gt (blk_lt (g := ak) (o := .cells #[.slice (some ad235) aa.length ar, .slice aw ah.length au, .slice aE ae.length av] 28 (0, 0)) (zqB af.out)) : aC ≠ ak)); replace af := zA (blk_below (g := ak) (o := .cells #[.slice (some ad235) aa.length ar, .slice aw ah.length au, .slice aE ae.length av] 28 (0, 0)) (zqB af.out) hb); have a4 := zA ((by rw [hg]; exact Nat.ne_of_lt (blk_lt (g := al) (o := .cells #[.slice ax ai.length ay, .slice aD ac.length az, .slice aM ab.length aA] 28 (0, 0)) (zqB ag.out)) : al ≠ aC)); have bd := zA ((by rw [hg]; exact Nat.ne_of_gt (blk_lt (g := al) (o := .cells #[.slice ax ai.length ay, .slice aD ac.length az, .slice aM ab.length aA] 28 (0, 0)) (zqB ag.out)) : aC ≠ al)); replace ag := zA (blk_below (g := al) (o := .cells #[.slice ax ai.length ay, .slice aD ac.length az, .slice aM ab.length aA] 28 (0, 0)) (zqB ag.out) hb); clear hb hbox hg; have hnb14 := bi.out; have hnc14 := a7.out; have hnb15 := bd.out; have hnc15 := a4.out; have hcz16_0 : w13.cell? ⟨aC, 0, none⟩ = some (.int .i64 0) := (blk_cell am.out 0).trans rfl; have hcz16_1 : w13.cell? ⟨aC, 1, none⟩ = some (.int .i64 0) := (blk_cell am.out 1).trans rfl; have hcz16_2 : w13.cell? ⟨aC, 2, none⟩ = some (.int .i64 0) := (blk_cell am.out 2).trans rfl; have hfz16_0 := blk_frozen am.out 0; have hfz16_1 := blk_frozen am.out 1; have hfz16_2 := blk_frozen am.out 2))
      have n0_ : Aside0 (Kd.R k108 108 (((w13.setCell ⟨aC, 0, none⟩ (.int .i64 ((rd_T61 aa x24_1).f0))).setCell ⟨aC, 1, none⟩ (.int .i64 ((rd_T61 aa x24_1).f1))).setCell ⟨aC, 2, none⟩ (.int .i64 ((rd_T61 aa x24_1).f2))) w.heap.size (fun _ => True) u6 x6_1) := ⟨by (with_reducible repeat (first | apply Kd.R_alloc | apply Kd.R_drewN | apply Kd.R_drew)); exact Kd.R_mono (Kd.R_far (p := ⟨aC, 2, none⟩) (Kd.R_far (p := ⟨aC, 1, none⟩) (Kd.R_far (p := ⟨aC, 0, none⟩) (Kd.R_types aj.out am.out (by decide)) (fun _ hk => hk.2) (.int .i64 ((rd_T61 aa x24_1).f0))) (fun _ hk => hk.2) (.int .i64 ((rd_T61 aa x24_1).f1))) (fun _ hk => hk.2) (.int .i64 ((rd_T61 aa x24_1).f2))) (fun _ hk => trivial)⟩
      have n1_ : Aside0 ((((w13.setCell ⟨aC, 0, none⟩ (.int .i64 ((rd_T61 aa x24_1).f0))).setCell ⟨aC, 1, none⟩ (.int .i64 ((rd_T61 aa x24_1).f1))).setCell ⟨aC, 2, none⟩ (.int .i64 ((rd_T61 aa x24_1).f2))).heap[ak]? = some (.cells #[.slice (some ad235) aa.length ar, .slice aw ah.length au, .slice aE ae.length av] 28 (0, 0))) := ⟨by (with_reducible repeat (first | refine blk_drewN ?_ _ | refine blk_drew ?_ | refine blk_alloc ?_ _)); refine blk_far ?_ a7.out _; (with_reducible repeat (first | refine blk_drewN ?_ _ | refine blk_drew ?_ | refine blk_alloc ?_ _)); refine blk_far ?_ a7.out _; (with_reducible repeat (first | refine blk_drewN ?_ _ | refine blk_drew ?_ | refine blk_alloc ?_ _)); refine blk_far ?_ a7.out _; (with_reducible repeat (first | refine blk_drewN ?_ _ | refine blk_drew ?_ | refine blk_alloc ?_ _)); exact af.out⟩
      have n2_ : Aside0 ((((w13.setCell ⟨aC, 0, none⟩ (.int .i64 ((rd_T61 aa x24_1).f0))).setCell ⟨aC, 1, none⟩ (.int .i64 ((rd_T61 aa x24_1).f1))).setCell ⟨aC, 2, none⟩ (.int .i64 ((rd_T61 aa x24_1).f2))).heap[al]? = some (.cells #[.slice ax ai.length ay, .slice aD ac.length az, .slice aM ab.length aA] 28 (0, 0))) := ⟨by (with_reducible repeat (first | refine blk_drewN ?_ _ | refine blk_drew ?_ | refine blk_alloc ?_ _)); refine blk_far ?_ a4.out _; (with_reducible repeat (first | refine blk_drewN ?_ _ | refine blk_drew ?_ | refine blk_alloc ?_ _)); refine blk_far ?_ a4.out _; (with_reducible repeat (first | refine blk_drewN ?_ _ | refine blk_drew ?_ | refine blk_alloc ?_ _)); refine blk_far ?_ a4.out _; (with_reducible repeat (first | refine blk_drewN ?_ _ | refine blk_drew ?_ | refine blk_alloc ?_ _)); exact ag.out⟩
      have n3_ : Aside0 ((((w13.setCell ⟨aC, 0, none⟩ (.int .i64 ((rd_T61 aa x24_1).f0))).setCell ⟨aC, 1, none⟩ (.int .i64 ((rd_T61 aa x24_1).f1))).setCell ⟨aC, 2, none⟩ (.int .i64 ((rd_T61 aa x24_1).f2))).heap[aC]? = some (.cells #[.int .i64 ((rd_T61 aa x24_1).f0), .int .i64 ((rd_T61 aa x24_1).f1), .int .i64 ((rd_T61 aa x24_1).f2)] 61 (0, 0))) := ⟨by (with_reducible repeat (first | refine blk_drewN ?_ _ | refine blk_drew ?_ | refine blk_alloc ?_ _)); refine blk_put (cs := #[.int .i64 ((rd_T61 aa x24_1).f0), .int .i64 ((rd_T61 aa x24_1).f1), .int .i64 0]) ?_ 2 _ rfl; (with_reducible repeat (first | refine blk_drewN ?_ _ | refine blk_drew ?_ | refine blk_alloc ?_ _)); refine blk_put (cs := #[.int .i64 ((rd_T61 aa x24_1).f0), .int .i64 0, .int .i64 0]) ?_ 1 _ rfl; (with_reducible repeat (first | refine blk_drewN ?_ _ | refine blk_drew ?_ | refine blk_alloc ?_ _)); refine blk_put (cs := #[.int .i64 0, .int .i64 0, .int .i64 0]) ?_ 0 _ rfl; (with_reducible repeat (first | refine blk_drewN ?_ _ | refine blk_drew ?_ | refine blk_alloc ?_ _)); exact am.out⟩
      have n4_ : Aside0 (Below w.heap.size w (((w13.setCell ⟨aC, 0, none⟩ (.int .i64 ((rd_T61 aa x24_1).f0))).setCell ⟨aC, 1, none⟩ (.int .i64 ((rd_T61 aa x24_1).f1))).setCell ⟨aC, 2, none⟩ (.int .i64 ((rd_T61 aa x24_1).f2)))) := ⟨zqI HB.out an.out ao.out aR.out⟩
      generalize (((w13.setCell ⟨aC, 0, none⟩ (.int .i64 ((rd_T61 aa x24_1).f0))).setCell ⟨aC, 1, none⟩ (.int .i64 ((rd_T61 aa x24_1).f1))).setCell ⟨aC, 2, none⟩ (.int .i64 ((rd_T61 aa x24_1).f2))) = w17 at n0_ n1_ n2_ n3_ n4_ ⊢; have aj := n0_; have af := n1_; have ag := n2_; have am := n3_; have HB := n4_; clear n0_ n1_ n2_ n3_ n4_
      replace aj := zA (Kd.R_drew aj.out)
      replace af := zA (blk_drew af.out)
      replace ag := zA (blk_drew ag.out)
      replace am := zA (blk_drew am.out)
      replace HB := zA (below_drew1 HB.out)
      refine start_ (n := 8) (S := fun w' => w'.cell? ⟨ak, 0, none⟩ = some (.slice (some ad235) aa.length ar) ∧ w'.cell? ⟨ak, 1, none⟩ = some (.slice aw ah.length au) ∧ w'.cell? ⟨ak, 2, none⟩ = some (.slice aE ae.length av) ∧ w'.cell? ⟨al, 0, none⟩ = some (.slice ax ai.length ay) ∧ w'.cell? ⟨al, 1, none⟩ = some (.slice aD ac.length az) ∧ w'.cell? ⟨al, 2, none⟩ = some (.slice aM ab.length aA)) (ds := []) #[false, false, false, false, false, false, false, false] (by kernel_rfl) rfl rfl ⟨(blk_cell af.out 0).trans rfl, (blk_cell af.out 1).trans rfl, (blk_cell af.out 2).trans rfl, (blk_cell ag.out 0).trans rfl, (blk_cell ag.out 1).trans rfl, (blk_cell ag.out 2).trans rfl⟩ (fun hHeld => ?_); refine with_tabW edit_meet.tab5 edit_meet.bits5 (fun HT_ HW_ => ?_)
      generalize w17.drew = w18 at aj af ag am HB hHeld ⊢
      refine pureQ 1 (some 30) HT_ ?_
      refine pureQ 4 (some 33) HT_ ?_
      refine takeQ (v := ?_) (a' := ?_) 0 (some 29) HT_ HW_ hHeld ?_ ?_ ?_
      rotate_left
      ·
       rintro w' ⟨s0, s1, s2, s3, s4, s5⟩
       go_simp
       with_reducible rfl
      rotate_left
      ·
       exact putQ
      refine takeQ (v := ?_) (a' := ?_) 3 (some 32) HT_ HW_ hHeld ?_ ?_ ?_
      rotate_left
      ·
       rintro w' ⟨s0, s1, s2, s3, s4, s5⟩
       go_simp
       with_reducible rfl
      rotate_left
      ·
       exact putQ
      refine one_ (i := 2) (N := some 31) #[true, true, true, true, true, false, false, false] rfl rfl (one_of HT_.out (by kernel_rfl)) (by decide) (fun K hK => ?_)
      refine goes_ Try.func68 (by kernel_rfl) rfl #[.agg #[.slice (some ad235) aa.length ar, .slice aw ah.length au, .slice aE ae.length av], .int .i64 x24_1] (by rfl) rfl rfl zqE ?_
      with_reducible refine (edit_Patch_kept.calls k1 _ _ aa _ _ ah _ _ ae x24_1 t237 _ ?side1 ?side2 ?side3 ?side4 ?side5 ?side6 A10.out).mono ?_
      (case side1 => exact zqK (Kd.C_below bA.out HB.out))
      (case side2 => exact bD.out)
      (case side3 => exact zqK (Kd.C_below bv.out HB.out))
      (case side4 => exact bE.out)
      (case side5 => exact zqK (Kd.C_below bw.out HB.out))
      (case side6 => exact bF.out)
      rintro e w19 ⟨rfl, hb⟩
      refine ⟨_, rfl, ?_⟩
      replace aj := zA (Kd.R_below (zqC aj.out) hb)
      replace af := zA (blk_below (g := ak) (o := .cells #[.slice (some ad235) aa.length ar, .slice aw ah.length au, .slice aE ae.length av] 28 (0, 0)) (zqB af.out) hb)
      replace ag := zA (blk_below (g := al) (o := .cells #[.slice ax ai.length ay, .slice aD ac.length az, .slice aM ab.length aA] 28 (0, 0)) (zqB ag.out) hb)
      replace am := zA (blk_below (g := aC) (o := .cells #[.int .i64 ((rd_T61 aa x24_1).f0), .int .i64 ((rd_T61 aa x24_1).f1), .int .i64 ((rd_T61 aa x24_1).f2)] 61 (0, 0)) (zqB am.out) hb)
      replace HB := zA (below_step (zqI HB.out an.out ao.out aR.out) hb)
      refine hK.out _ _ ⟨(blk_cell af.out 0).trans rfl, (blk_cell af.out 1).trans rfl, (blk_cell af.out 2).trans rfl, (blk_cell ag.out 0).trans rfl, (blk_cell ag.out 1).trans rfl, (blk_cell ag.out 2).trans rfl⟩ (fun hHeld => ?_)
      clear hK K
      refine normQ ?_
      refine one_ (i := 5) (N := some 34) #[true, true, true, true, true, true, false, false] rfl rfl (one_of HT_.out (by kernel_rfl)) (by decide) (fun K hK => ?_)
      refine goes_ Try.func68 (by kernel_rfl) rfl #[.agg #[.slice ax ai.length ay, .slice aD ac.length az, .slice aM ab.length aA], .int .i64 x24_1] (by rfl) rfl rfl zqE ?_
      with_reducible refine (edit_Patch_kept.calls k1 _ _ ai _ _ ac _ _ ab x24_1 t238 _ ?side1 ?side2 ?side3 ?side4 ?side5 ?side6 A11.out).mono ?_
      (case side1 => exact zqK (Kd.C_below bG.out HB.out))
      (case side2 => exact bH.out)
      (case side3 => exact zqK (Kd.C_below bo.out HB.out))
      (case side4 => exact bI.out)
      (case side5 => exact zqK (Kd.C_below bp.out HB.out))
      (case side6 => exact bJ.out)
      rintro e w20 ⟨rfl, hb⟩
      refine ⟨_, rfl, ?_⟩
      replace aj := zA (Kd.R_below (zqC aj.out) hb)
      replace af := zA (blk_below (g := ak) (o := .cells #[.slice (some ad235) aa.length ar, .slice aw ah.length au, .slice aE ae.length av] 28 (0, 0)) (zqB af.out) hb)
      replace ag := zA (blk_below (g := al) (o := .cells #[.slice ax ai.length ay, .slice aD ac.length az, .slice aM ab.length aA] 28 (0, 0)) (zqB ag.out) hb)
      replace am := zA (blk_below (g := aC) (o := .cells #[.int .i64 ((rd_T61 aa x24_1).f0), .int .i64 ((rd_T61 aa x24_1).f1), .int .i64 ((rd_T61 aa x24_1).f2)] 61 (0, 0)) (zqB am.out) hb)
      replace HB := zA (below_step (zqI HB.out an.out ao.out aR.out) hb)
      refine hK.out _ _ ⟨(blk_cell af.out 0).trans rfl, (blk_cell af.out 1).trans rfl, (blk_cell af.out 2).trans rfl, (blk_cell ag.out 0).trans rfl, (blk_cell ag.out 1).trans rfl, (blk_cell ag.out 2).trans rfl⟩ (fun hHeld => ?_)
      clear hK K
      refine normQ ?_
      refine pureQ 6 (some 9) HT_ ?_
      refine pureQ 7 (some 10) HT_ ?_
      refine done_ (done_of HT_.out (by kernel_rfl)) ?_
      go_upto_if 36 with (first | ((with_reducible refine gate_dst (N := 11) rfl ?_); refine box_event ?hg (N := 11) ?hd (cs := #[.int .i64 0, .int .i64 0, .int .i64 0]) (t := 61) ?hr ?_; (case hd => rfl); (case hg => rfl); (case hr => first | (go_simp; done) | (go_simp; rfl)); intro aJ hg w21 hbox hb; replace aj := zA (Kd.R_below (zqC aj.out) hb); have ap := zA (hbox); have GW239 := zA ((by rw [hg]; exact (below_size (zqI HB.out an.out ao.out aR.out)) : w.heap.size ≤ aJ)); have aU := zA ((by rw [hg]; exact (below_size (zqI HB.out an.out ao.out aR.out)) : w.heap.size ≤ aJ)); replace HB := zA (below_step (zqI HB.out an.out ao.out aR.out) hb); have a3 := zA ((by rw [hg]; exact Nat.ne_of_lt (blk_lt (g := ak) (o := .cells #[.slice (some ad235) aa.length ar, .slice aw ah.length au, .slice aE ae.length av] 28 (0, 0)) (zqB af.out)) : ak ≠ aJ)); have bk := zA ((by rw [hg]; exact Nat.ne_of_gt (blk_lt (g := ak) (o := .cells #[.slice (some ad235) aa.length ar, .slice aw ah.length au, .slice aE ae.length av] 28 (0, 0)) (zqB af.out)) : aJ ≠ ak)); replace af := zA (blk_below (g := ak) (o := .cells #[.slice (some ad235) aa.length ar, .slice aw ah.length au, .slice aE ae.length av] 28 (0, 0)) (zqB af.out) hb); have aZ := zA ((by rw [hg]; exact Nat.ne_of_lt (blk_lt (g := al) (o := .cells #[.slice ax ai.length ay, .slice aD ac.length az, .slice aM ab.length aA] 28 (0, 0)) (zqB ag.out)) : al ≠ aJ)); have be := zA ((by rw [hg]; exact Nat.ne_of_gt (blk_lt (g := al) (o := .cells #[.slice ax ai.length ay, .slice aD ac.length az, .slice aM ab.length aA] 28 (0, 0)) (zqB ag.out)) : aJ ≠ al)); replace ag := zA (blk_below (g := al) (o := .cells #[.slice ax ai.length ay, .slice aD ac.length az, .slice aM ab.length aA] 28 (0, 0)) (zqB ag.out) hb); have a8 := zA ((by rw [hg]; exact Nat.ne_of_lt (blk_lt (g := aC) (o := .cells #[.int .i64 ((rd_T61 aa x24_1).f0), .int .i64 ((rd_T61 aa x24_1).f1), .int .i64 ((rd_T61 aa x24_1).f2)] 61 (0, 0)) (zqB am.out)) : aC ≠ aJ)); have bx := zA ((by rw [hg]; exact Nat.ne_of_gt (blk_lt (g := aC) (o := .cells #[.int .i64 ((rd_T61 aa x24_1).f0), .int .i64 ((rd_T61 aa x24_1).f1), .int .i64 ((rd_T61 aa x24_1).f2)] 61 (0, 0)) (zqB am.out)) : aJ ≠ aC)); replace am := zA (blk_below (g := aC) (o := .cells #[.int .i64 ((rd_T61 aa x24_1).f0), .int .i64 ((rd_T61 aa x24_1).f1), .int .i64 ((rd_T61 aa x24_1).f2)] 61 (0, 0)) (zqB am.out) hb); clear hb hbox hg) | ((with_reducible refine gate_dst (N := 12) rfl ?_); refine box_event ?hg (N := 12) ?hd (cs := #[.int .i64 0, .int .i64 0, .int .i64 0]) (t := 61) ?hr ?_; (case hd => rfl); (case hg => rfl); (case hr => first | (go_simp; done) | (go_simp; rfl)); intro aT hg w22 hbox hb; replace aj := zA (Kd.R_below (zqC aj.out) hb); have aH := zA (hbox); have GW240 := zA ((by rw [hg]; exact (below_size (zqJ HB.out an.out ao.out aR.out aU.out)) : w.heap.size ≤ aT)); have aV := zA ((by rw [hg]; exact (below_size (zqJ HB.out an.out ao.out aR.out aU.out)) : w.heap.size ≤ aT)); replace HB := zA (below_step (zqJ HB.out an.out ao.out aR.out aU.out) hb); have bf := zA ((by rw [hg]; exact Nat.ne_of_lt (blk_lt (g := ak) (o := .cells #[.slice (some ad235) aa.length ar, .slice aw ah.length au, .slice aE ae.length av] 28 (0, 0)) (zqB af.out)) : ak ≠ aT)); have bq := zA ((by rw [hg]; exact Nat.ne_of_gt (blk_lt (g := ak) (o := .cells #[.slice (some ad235) aa.length ar, .slice aw ah.length au, .slice aE ae.length av] 28 (0, 0)) (zqB af.out)) : aT ≠ ak)); replace af := zA (blk_below (g := ak) (o := .cells #[.slice (some ad235) aa.length ar, .slice aw ah.length au, .slice aE ae.length av] 28 (0, 0)) (zqB af.out) hb); have bg := zA ((by rw [hg]; exact Nat.ne_of_lt (blk_lt (g := al) (o := .cells #[.slice ax ai.length ay, .slice aD ac.length az, .slice aM ab.length aA] 28 (0, 0)) (zqB ag.out)) : al ≠ aT)); have br := zA ((by rw [hg]; exact Nat.ne_of_gt (blk_lt (g := al) (o := .cells #[.slice ax ai.length ay, .slice aD ac.length az, .slice aM ab.length aA] 28 (0, 0)) (zqB ag.out)) : aT ≠ al)); replace ag := zA (blk_below (g := al) (o := .cells #[.slice ax ai.length ay, .slice aD ac.length az, .slice aM ab.length aA] 28 (0, 0)) (zqB ag.out) hb); have bj := zA ((by rw [hg]; exact Nat.ne_of_lt (blk_lt (g := aC) (o := .cells #[.int .i64 ((rd_T61 aa x24_1).f0), .int .i64 ((rd_T61 aa x24_1).f1), .int .i64 ((rd_T61 aa x24_1).f2)] 61 (0, 0)) (zqB am.out)) : aC ≠ aT)); have bz := zA ((by rw [hg]; exact Nat.ne_of_gt (blk_lt (g := aC) (o := .cells #[.int .i64 ((rd_T61 aa x24_1).f0), .int .i64 ((rd_T61 aa x24_1).f1), .int .i64 ((rd_T61 aa x24_1).f2)] 61 (0, 0)) (zqB am.out)) : aT ≠ aC)); replace am := zA (blk_below (g := aC) (o := .cells #[.int .i64 ((rd_T61 aa x24_1).f0), .int .i64 ((rd_T61 aa x24_1).f1), .int .i64 ((rd_T61 aa x24_1).f2)] 61 (0, 0)) (zqB am.out) hb); have bh := zA ((by rw [hg]; exact Nat.ne_of_lt (blk_lt (g := aJ) (o := .cells #[.int .i64 0, .int .i64 0, .int .i64 0] 61 (0, 0)) (zqB ap.out)) : aJ ≠ aT)); have a5 := zA ((by rw [hg]; exact Nat.ne_of_gt (blk_lt (g := aJ) (o := .cells #[.int .i64 0, .int .i64 0, .int .i64 0] 61 (0, 0)) (zqB ap.out)) : aT ≠ aJ)); replace ap := zA (blk_below (g := aJ) (o := .cells #[.int .i64 0, .int .i64 0, .int .i64 0] 61 (0, 0)) (zqB ap.out) hb); clear hb hbox hg))
      (try simp only [Act.put, List.setIfInBounds_toArray, List.set_cons_zero, List.set_cons_succ])
      go_cut [] (fun wc => ∃ (kq : Nat) (x240000_11 : Int) (x240001_11 : Int) (x240002_11 : Int), Aside0 (edit_meet.j1 kq x6_1 x24_1 t237 t238 aa (aa.length : Int) x24_1 aa ah ae ai ac ab ((rd_T61 aa x24_1).f0) ((rd_T61 aa x24_1).f1) ((rd_T61 aa x24_1).f2) x240000_11 x240001_11 x240002_11 0 0 0 = some (r1, r2)) ∧ Aside0 (kq ≤ k1) ∧ Aside0 (Kd.R k108 108 wc w.heap.size (fun _ => True) u6 x6_1) ∧ Aside0 (wc.heap[ak]? = some (.cells #[(.slice (some ad235) aa.length ar), (.slice aw ah.length au), (.slice aE ae.length av)] 28 (0, 0))) ∧ Aside0 (wc.heap[al]? = some (.cells #[(.slice ax ai.length ay), (.slice aD ac.length az), (.slice aM ab.length aA)] 28 (0, 0))) ∧ Aside0 (wc.heap[aC]? = some (.cells #[.int .i64 ((rd_T61 aa x24_1).f0), .int .i64 ((rd_T61 aa x24_1).f1), .int .i64 ((rd_T61 aa x24_1).f2)] 61 (0, 0))) ∧ Aside0 (wc.heap[aJ]? = some (.cells #[.int .i64 x240000_11, .int .i64 x240001_11, .int .i64 x240002_11] 61 (0, 0))) ∧ Aside0 (wc.heap[aT]? = some (.cells #[.int .i64 0, .int .i64 0, .int .i64 0] 61 (0, 0))) ∧ Aside0 (Below w.heap.size w wc))
      case first =>
       have H := bK.out
       clear bK
       by_cases c23 : t237 ≥ 0
       ·
        rw [if_pos c23] at H
        have c23b0 : decide (0 ≤ t237) = true := decide_eq_true c23
        clear c23
        (first | rw [c23b0] | (simp only [i64_w, i32_w]; rw [c23b0]) | skip)
        by_cases c24 : 0 ≤ t237
        ·
         rw [if_pos c24] at H
         have c24b0 : decide (0 ≤ t237) = true := decide_eq_true c24
         clear c24
         by_cases c25 : t237 < (ah.length : Int)
         ·
          rw [if_pos c25] at H
          have c25b0 : decide (t237 < (ah.length : Int)) = true := decide_eq_true c25
          clear c25
          have H' := zA H
          clear H
          have hnb26 := bb.out
          have hnc26 := bc.out
          have hnb27 := a7.out
          have hnc27 := bi.out
          have hnb28 := a3.out
          have hnc28 := bk.out
          have hnb29 := bf.out
          have hnc29 := bq.out
          have hcz30_0 : w22.cell? ⟨ak, 0, none⟩ = some (.slice (some ad235) aa.length ar) := (blk_cell af.out 0).trans rfl
          have hcz30_1 : w22.cell? ⟨ak, 1, none⟩ = some (.slice aw ah.length au) := (blk_cell af.out 1).trans rfl
          have hcz30_2 : w22.cell? ⟨ak, 2, none⟩ = some (.slice aE ae.length av) := (blk_cell af.out 2).trans rfl
          have hfz30_0 := blk_frozen af.out 0
          have hfz30_1 := blk_frozen af.out 1
          have hfz30_2 := blk_frozen af.out 2
          have p241 : 0 ≤ (t237 : Int) := of_decide_eq_true (zqD)
          have q241 : t237 < (ah.length : Int) := of_decide_eq_true (zqD)
          obtain ⟨ad241, e241, hx241_0, hx241_1, hx241_2⟩ := at_T61 bv.out t237 p241 q241
          cases e241
          replace hx241_0 := (HB.out.cell (World.block_lt_of_cell? w _ hx241_0)).trans hx241_0
          replace hx241_1 := (HB.out.cell (World.block_lt_of_cell? w _ hx241_1)).trans hx241_1
          replace hx241_2 := (HB.out.cell (World.block_lt_of_cell? w _ hx241_2)).trans hx241_2
          replace p241 := eq_true p241; replace q241 := eq_true q241
          have hnb31 := be.out
          have hnc31 := aZ.out
          have hnb32 := bx.out
          have hnc32 := a8.out
          have hnb33 := bh.out
          have hnc33 := a5.out
          have hcz34_0 : w22.cell? ⟨aJ, 0, none⟩ = some (.int .i64 0) := (blk_cell ap.out 0).trans rfl
          have hcz34_1 : w22.cell? ⟨aJ, 1, none⟩ = some (.int .i64 0) := (blk_cell ap.out 1).trans rfl
          have hcz34_2 : w22.cell? ⟨aJ, 2, none⟩ = some (.int .i64 0) := (blk_cell ap.out 2).trans rfl
          have hfz34_0 := blk_frozen ap.out 0
          have hfz34_1 := blk_frozen ap.out 1
          have hfz34_2 := blk_frozen ap.out 2
          go_wp2
          go_meet
          case rel => exact ⟨_, ((rd_T61 ah t237).f0), ((rd_T61 ah t237).f1), ((rd_T61 ah t237).f2), H', ⟨by have := HK1.out; first | omega | exact Nat.le_refl _⟩, ⟨by (with_reducible repeat (first | apply Kd.R_alloc | apply Kd.R_drewN | apply Kd.R_drew)); exact Kd.R_mono (Kd.R_far (p := ⟨aJ, 2, none⟩) (Kd.R_far (p := ⟨aJ, 1, none⟩) (Kd.R_far (p := ⟨aJ, 0, none⟩) (Kd.R_types aj.out ap.out (by decide)) (fun _ hk => hk.2) (.int .i64 ((rd_T61 ah t237).f0))) (fun _ hk => hk.2) (.int .i64 ((rd_T61 ah t237).f1))) (fun _ hk => hk.2) (.int .i64 ((rd_T61 ah t237).f2))) (fun _ hk => trivial)⟩, ⟨by (with_reducible repeat (first | refine blk_drewN ?_ _ | refine blk_drew ?_ | refine blk_alloc ?_ _)); refine blk_far ?_ a3.out _; (with_reducible repeat (first | refine blk_drewN ?_ _ | refine blk_drew ?_ | refine blk_alloc ?_ _)); refine blk_far ?_ a3.out _; (with_reducible repeat (first | refine blk_drewN ?_ _ | refine blk_drew ?_ | refine blk_alloc ?_ _)); refine blk_far ?_ a3.out _; (with_reducible repeat (first | refine blk_drewN ?_ _ | refine blk_drew ?_ | refine blk_alloc ?_ _)); exact af.out⟩, ⟨by (with_reducible repeat (first | refine blk_drewN ?_ _ | refine blk_drew ?_ | refine blk_alloc ?_ _)); refine blk_far ?_ aZ.out _; (with_reducible repeat (first | refine blk_drewN ?_ _ | refine blk_drew ?_ | refine blk_alloc ?_ _)); refine blk_far ?_ aZ.out _; (with_reducible repeat (first | refine blk_drewN ?_ _ | refine blk_drew ?_ | refine blk_alloc ?_ _)); refine blk_far ?_ aZ.out _; (with_reducible repeat (first | refine blk_drewN ?_ _ | refine blk_drew ?_ | refine blk_alloc ?_ _)); exact ag.out⟩, ⟨by (with_reducible repeat (first | refine blk_drewN ?_ _ | refine blk_drew ?_ | refine blk_alloc ?_ _)); refine blk_far ?_ a8.out _; (with_reducible repeat (first | refine blk_drewN ?_ _ | refine blk_drew ?_ | refine blk_alloc ?_ _)); refine blk_far ?_ a8.out _; (with_reducible repeat (first | refine blk_drewN ?_ _ | refine blk_drew ?_ | refine blk_alloc ?_ _)); refine blk_far ?_ a8.out _; (with_reducible repeat (first | refine blk_drewN ?_ _ | refine blk_drew ?_ | refine blk_alloc ?_ _)); exact am.out⟩, ⟨by (with_reducible repeat (first | refine blk_drewN ?_ _ | refine blk_drew ?_ | refine blk_alloc ?_ _)); refine blk_put (cs := #[.int .i64 ((rd_T61 ah t237).f0), .int .i64 ((rd_T61 ah t237).f1), .int .i64 0]) ?_ 2 _ rfl; (with_reducible repeat (first | refine blk_drewN ?_ _ | refine blk_drew ?_ | refine blk_alloc ?_ _)); refine blk_put (cs := #[.int .i64 ((rd_T61 ah t237).f0), .int .i64 0, .int .i64 0]) ?_ 1 _ rfl; (with_reducible repeat (first | refine blk_drewN ?_ _ | refine blk_drew ?_ | refine blk_alloc ?_ _)); refine blk_put (cs := #[.int .i64 0, .int .i64 0, .int .i64 0]) ?_ 0 _ rfl; (with_reducible repeat (first | refine blk_drewN ?_ _ | refine blk_drew ?_ | refine blk_alloc ?_ _)); exact ap.out⟩, ⟨by (with_reducible repeat (first | refine blk_drewN ?_ _ | refine blk_drew ?_ | refine blk_alloc ?_ _)); refine blk_far ?_ a5.out _; (with_reducible repeat (first | refine blk_drewN ?_ _ | refine blk_drew ?_ | refine blk_alloc ?_ _)); refine blk_far ?_ a5.out _; (with_reducible repeat (first | refine blk_drewN ?_ _ | refine blk_drew ?_ | refine blk_alloc ?_ _)); refine blk_far ?_ a5.out _; (with_reducible repeat (first | refine blk_drewN ?_ _ | refine blk_drew ?_ | refine blk_alloc ?_ _)); exact aH.out⟩, ⟨by repeat (first | (with_reducible first | exact HB.out | apply below_alloc | apply pw_below_drewN | apply below_drew1 | refine below_set ?_ an.out | refine below_set ?_ ao.out | refine below_set ?_ aR.out | refine below_set ?_ aU.out | refine below_set ?_ aV.out) | exact HB.out)⟩⟩
         ·
          rw [if_neg c25] at H
          exact absurd H (by simp)
        ·
         rw [if_neg c24] at H
         exact absurd H (by simp)
       ·
        rw [if_neg c23] at H
        have c23b0 : decide (0 ≤ t237) = false := decide_eq_false c23
        clear c23
        (first | rw [c23b0] | (simp only [i64_w, i32_w]; rw [c23b0]) | skip)
        have H' := zA H
        clear H
        go_wp2
        go_meet
        case rel => exact ⟨_, (0), (0), (0), H', ⟨by have := HK1.out; first | omega | exact Nat.le_refl _⟩, ⟨zqC aj.out⟩, ⟨zqB af.out⟩, ⟨zqB ag.out⟩, ⟨zqB am.out⟩, ⟨zqB ap.out⟩, ⟨zqB aH.out⟩, ⟨by repeat (first | (with_reducible first | exact HB.out | apply below_alloc | apply pw_below_drewN | apply below_drew1 | refine below_set ?_ an.out | refine below_set ?_ ao.out | refine below_set ?_ aR.out | refine below_set ?_ aU.out | refine below_set ?_ aV.out) | exact HB.out)⟩⟩
      case rest =>
       clear bK
       obtain ⟨kq, x240000_11, x240001_11, x240002_11, HA, HJ11, aj, af, ag, am, ap, aH, HB⟩ := hcut
       cases kq with
       | zero => exact absurd HA.out (by simp [edit_meet.j1])
       | succ kj11 =>
        have H := HA.out
        clear HA
        simp only [edit_meet.j1] at H
        have bL := zA H
        clear H
        go_upto_if 43 with (fail)
        go_cut [] (fun wc => ∃ (kq : Nat) (x241000_34 : Int) (x241001_34 : Int) (x241002_34 : Int), Aside0 (edit_meet.j2 kq x6_1 x24_1 t237 t238 aa (aa.length : Int) x24_1 aa ah ae ai ac ab ((rd_T61 aa x24_1).f0) ((rd_T61 aa x24_1).f1) ((rd_T61 aa x24_1).f2) x240000_11 x240001_11 x240002_11 x241000_34 x241001_34 x241002_34 = some (r1, r2)) ∧ Aside0 (kq ≤ kj11) ∧ Aside0 (Kd.R k108 108 wc w.heap.size (fun _ => True) u6 x6_1) ∧ Aside0 (wc.heap[ak]? = some (.cells #[(.slice (some ad235) aa.length ar), (.slice aw ah.length au), (.slice aE ae.length av)] 28 (0, 0))) ∧ Aside0 (wc.heap[al]? = some (.cells #[(.slice ax ai.length ay), (.slice aD ac.length az), (.slice aM ab.length aA)] 28 (0, 0))) ∧ Aside0 (wc.heap[aC]? = some (.cells #[.int .i64 ((rd_T61 aa x24_1).f0), .int .i64 ((rd_T61 aa x24_1).f1), .int .i64 ((rd_T61 aa x24_1).f2)] 61 (0, 0))) ∧ Aside0 (wc.heap[aJ]? = some (.cells #[.int .i64 x240000_11, .int .i64 x240001_11, .int .i64 x240002_11] 61 (0, 0))) ∧ Aside0 (wc.heap[aT]? = some (.cells #[.int .i64 x241000_34, .int .i64 x241001_34, .int .i64 x241002_34] 61 (0, 0))) ∧ Aside0 (Below w.heap.size w wc))
        case first =>
         have H := bL.out
         clear bL
         by_cases c36 : t238 ≥ 0
         ·
          rw [if_pos c36] at H
          have c36b0 : decide (0 ≤ t238) = true := decide_eq_true c36
          clear c36
          (first | rw [c36b0] | (simp only [i64_w, i32_w]; rw [c36b0]) | skip)
          by_cases c37 : 0 ≤ t238
          ·
           rw [if_pos c37] at H
           have c37b0 : decide (0 ≤ t238) = true := decide_eq_true c37
           clear c37
           by_cases c38 : t238 < (ac.length : Int)
           ·
            rw [if_pos c38] at H
            have c38b0 : decide (t238 < (ac.length : Int)) = true := decide_eq_true c38
            clear c38
            have H' := zA H
            clear H
            have hnb39 := bc.out
            have hnc39 := bb.out
            have hnb40 := a4.out
            have hnc40 := bd.out
            have hnb41 := aZ.out
            have hnc41 := be.out
            have hnb42 := bg.out
            have hnc42 := br.out
            have hcz43_0 : wc.cell? ⟨al, 0, none⟩ = some (.slice ax ai.length ay) := (blk_cell ag.out 0).trans rfl
            have hcz43_1 : wc.cell? ⟨al, 1, none⟩ = some (.slice aD ac.length az) := (blk_cell ag.out 1).trans rfl
            have hcz43_2 : wc.cell? ⟨al, 2, none⟩ = some (.slice aM ab.length aA) := (blk_cell ag.out 2).trans rfl
            have hfz43_0 := blk_frozen ag.out 0
            have hfz43_1 := blk_frozen ag.out 1
            have hfz43_2 := blk_frozen ag.out 2
            have p242 : 0 ≤ (t238 : Int) := of_decide_eq_true (zqD)
            have q242 : t238 < (ac.length : Int) := of_decide_eq_true (zqD)
            obtain ⟨ad242, e242, hx242_0, hx242_1, hx242_2⟩ := at_T61 bo.out t238 p242 q242
            cases e242
            replace hx242_0 := (HB.out.cell (World.block_lt_of_cell? w _ hx242_0)).trans hx242_0
            replace hx242_1 := (HB.out.cell (World.block_lt_of_cell? w _ hx242_1)).trans hx242_1
            replace hx242_2 := (HB.out.cell (World.block_lt_of_cell? w _ hx242_2)).trans hx242_2
            replace p242 := eq_true p242; replace q242 := eq_true q242
            have hnb44 := bq.out
            have hnc44 := bf.out
            have hnb45 := bz.out
            have hnc45 := bj.out
            have hnb46 := a5.out
            have hnc46 := bh.out
            have hcz47_0 : wc.cell? ⟨aT, 0, none⟩ = some (.int .i64 0) := (blk_cell aH.out 0).trans rfl
            have hcz47_1 : wc.cell? ⟨aT, 1, none⟩ = some (.int .i64 0) := (blk_cell aH.out 1).trans rfl
            have hcz47_2 : wc.cell? ⟨aT, 2, none⟩ = some (.int .i64 0) := (blk_cell aH.out 2).trans rfl
            have hfz47_0 := blk_frozen aH.out 0
            have hfz47_1 := blk_frozen aH.out 1
            have hfz47_2 := blk_frozen aH.out 2
            go_wp2
            go_meet
            case rel => exact ⟨_, ((rd_T61 ac t238).f0), ((rd_T61 ac t238).f1), ((rd_T61 ac t238).f2), H', ⟨by have := HK1.out; have := HJ11.out; first | omega | exact Nat.le_refl _⟩, ⟨by (with_reducible repeat (first | apply Kd.R_alloc | apply Kd.R_drewN | apply Kd.R_drew)); exact Kd.R_mono (Kd.R_far (p := ⟨aT, 2, none⟩) (Kd.R_far (p := ⟨aT, 1, none⟩) (Kd.R_far (p := ⟨aT, 0, none⟩) (Kd.R_types aj.out aH.out (by decide)) (fun _ hk => hk.2) (.int .i64 ((rd_T61 ac t238).f0))) (fun _ hk => hk.2) (.int .i64 ((rd_T61 ac t238).f1))) (fun _ hk => hk.2) (.int .i64 ((rd_T61 ac t238).f2))) (fun _ hk => trivial)⟩, ⟨by (with_reducible repeat (first | refine blk_drewN ?_ _ | refine blk_drew ?_ | refine blk_alloc ?_ _)); refine blk_far ?_ bf.out _; (with_reducible repeat (first | refine blk_drewN ?_ _ | refine blk_drew ?_ | refine blk_alloc ?_ _)); refine blk_far ?_ bf.out _; (with_reducible repeat (first | refine blk_drewN ?_ _ | refine blk_drew ?_ | refine blk_alloc ?_ _)); refine blk_far ?_ bf.out _; (with_reducible repeat (first | refine blk_drewN ?_ _ | refine blk_drew ?_ | refine blk_alloc ?_ _)); exact af.out⟩, ⟨by (with_reducible repeat (first | refine blk_drewN ?_ _ | refine blk_drew ?_ | refine blk_alloc ?_ _)); refine blk_far ?_ bg.out _; (with_reducible repeat (first | refine blk_drewN ?_ _ | refine blk_drew ?_ | refine blk_alloc ?_ _)); refine blk_far ?_ bg.out _; (with_reducible repeat (first | refine blk_drewN ?_ _ | refine blk_drew ?_ | refine blk_alloc ?_ _)); refine blk_far ?_ bg.out _; (with_reducible repeat (first | refine blk_drewN ?_ _ | refine blk_drew ?_ | refine blk_alloc ?_ _)); exact ag.out⟩, ⟨by (with_reducible repeat (first | refine blk_drewN ?_ _ | refine blk_drew ?_ | refine blk_alloc ?_ _)); refine blk_far ?_ bj.out _; (with_reducible repeat (first | refine blk_drewN ?_ _ | refine blk_drew ?_ | refine blk_alloc ?_ _)); refine blk_far ?_ bj.out _; (with_reducible repeat (first | refine blk_drewN ?_ _ | refine blk_drew ?_ | refine blk_alloc ?_ _)); refine blk_far ?_ bj.out _; (with_reducible repeat (first | refine blk_drewN ?_ _ | refine blk_drew ?_ | refine blk_alloc ?_ _)); exact am.out⟩, ⟨by (with_reducible repeat (first | refine blk_drewN ?_ _ | refine blk_drew ?_ | refine blk_alloc ?_ _)); refine blk_far ?_ bh.out _; (with_reducible repeat (first | refine blk_drewN ?_ _ | refine blk_drew ?_ | refine blk_alloc ?_ _)); refine blk_far ?_ bh.out _; (with_reducible repeat (first | refine blk_drewN ?_ _ | refine blk_drew ?_ | refine blk_alloc ?_ _)); refine blk_far ?_ bh.out _; (with_reducible repeat (first | refine blk_drewN ?_ _ | refine blk_drew ?_ | refine blk_alloc ?_ _)); exact ap.out⟩, ⟨by (with_reducible repeat (first | refine blk_drewN ?_ _ | refine blk_drew ?_ | refine blk_alloc ?_ _)); refine blk_put (cs := #[.int .i64 ((rd_T61 ac t238).f0), .int .i64 ((rd_T61 ac t238).f1), .int .i64 0]) ?_ 2 _ rfl; (with_reducible repeat (first | refine blk_drewN ?_ _ | refine blk_drew ?_ | refine blk_alloc ?_ _)); refine blk_put (cs := #[.int .i64 ((rd_T61 ac t238).f0), .int .i64 0, .int .i64 0]) ?_ 1 _ rfl; (with_reducible repeat (first | refine blk_drewN ?_ _ | refine blk_drew ?_ | refine blk_alloc ?_ _)); refine blk_put (cs := #[.int .i64 0, .int .i64 0, .int .i64 0]) ?_ 0 _ rfl; (with_reducible repeat (first | refine blk_drewN ?_ _ | refine blk_drew ?_ | refine blk_alloc ?_ _)); exact aH.out⟩, ⟨by repeat (first | (with_reducible first | exact HB.out | apply below_alloc | apply pw_below_drewN | apply below_drew1 | refine below_set ?_ an.out | refine below_set ?_ ao.out | refine below_set ?_ aR.out | refine below_set ?_ aU.out | refine below_set ?_ aV.out) | exact HB.out)⟩⟩
           ·
            rw [if_neg c38] at H
            exact absurd H (by simp)
          ·
           rw [if_neg c37] at H
           exact absurd H (by simp)
         ·
          rw [if_neg c36] at H
          have c36b0 : decide (0 ≤ t238) = false := decide_eq_false c36
          clear c36
          (first | rw [c36b0] | (simp only [i64_w, i32_w]; rw [c36b0]) | skip)
          have H' := zA H
          clear H
          go_wp2
          go_meet
          case rel => exact ⟨_, (0), (0), (0), H', ⟨by have := HK1.out; have := HJ11.out; first | omega | exact Nat.le_refl _⟩, ⟨zqC aj.out⟩, ⟨zqB af.out⟩, ⟨zqB ag.out⟩, ⟨zqB am.out⟩, ⟨zqB ap.out⟩, ⟨zqB aH.out⟩, ⟨by repeat (first | (with_reducible first | exact HB.out | apply below_alloc | apply pw_below_drewN | apply below_drew1 | refine below_set ?_ an.out | refine below_set ?_ ao.out | refine below_set ?_ aR.out | refine below_set ?_ aU.out | refine below_set ?_ aV.out) | exact HB.out)⟩⟩
        case rest =>
         clear bL
         obtain ⟨kq, x241000_34, x241001_34, x241002_34, HA, HJ34, aj, af, ag, am, ap, aH, HB⟩ := hcut
         cases kq with
         | zero => exact absurd HA.out (by simp [edit_meet.j2])
         | succ kj34 =>
          have H := HA.out
          clear HA
          simp only [edit_meet.j2] at H
          have bM := zA H
          clear H
          go_upto_region 11 with (fail)
          go_cut [49] (fun v49 wc => ∃ (kq : Nat) (x49_47 : Bool), v49 = .bool x49_47 ∧ Aside0 (edit_meet.j3 kq x6_1 x24_1 t237 t238 aa (aa.length : Int) x24_1 x49_47 aa ah ae ai ac ab ((rd_T61 aa x24_1).f0) ((rd_T61 aa x24_1).f1) ((rd_T61 aa x24_1).f2) x240000_11 x240001_11 x240002_11 x241000_34 x241001_34 x241002_34 = some (r1, r2)) ∧ Aside0 (kq ≤ kj34) ∧ Aside0 (Kd.R k108 108 wc w.heap.size (fun _ => True) u6 x6_1) ∧ Aside0 (wc.heap[ak]? = some (.cells #[(.slice (some ad235) aa.length ar), (.slice aw ah.length au), (.slice aE ae.length av)] 28 (0, 0))) ∧ Aside0 (wc.heap[al]? = some (.cells #[(.slice ax ai.length ay), (.slice aD ac.length az), (.slice aM ab.length aA)] 28 (0, 0))) ∧ Aside0 (wc.heap[aC]? = some (.cells #[.int .i64 ((rd_T61 aa x24_1).f0), .int .i64 ((rd_T61 aa x24_1).f1), .int .i64 ((rd_T61 aa x24_1).f2)] 61 (0, 0))) ∧ Aside0 (wc.heap[aJ]? = some (.cells #[.int .i64 x240000_11, .int .i64 x240001_11, .int .i64 x240002_11] 61 (0, 0))) ∧ Aside0 (wc.heap[aT]? = some (.cells #[.int .i64 x241000_34, .int .i64 x241001_34, .int .i64 x241002_34] 61 (0, 0))) ∧ Aside0 (Below w.heap.size w wc))
          case first =>
           have H := bM.out
           clear bM
           by_cases c49 : (!(x240000_11 == ((rd_T61 aa x24_1).f0)) || (!(x240001_11 == ((rd_T61 aa x24_1).f1)) || (!(x240002_11 == ((rd_T61 aa x24_1).f2))))) = true
           ·
            rw [if_pos c49] at H
            have c49b0 : (!(x240000_11 == ((rd_T61 aa x24_1).f0)) || (!(x240001_11 == ((rd_T61 aa x24_1).f1)) || (!(x240002_11 == ((rd_T61 aa x24_1).f2))))) = true := c49
            clear c49
            (first | rw [c49b0] | (simp only [i64_w, i32_w]; rw [c49b0]) | skip)
            by_cases c50 : (!(x241000_34 == ((rd_T61 aa x24_1).f0)) || (!(x241001_34 == ((rd_T61 aa x24_1).f1)) || (!(x241002_34 == ((rd_T61 aa x24_1).f2))))) = true
            ·
             rw [if_pos c50] at H
             have c50b0 : (!(x241000_34 == ((rd_T61 aa x24_1).f0)) || (!(x241001_34 == ((rd_T61 aa x24_1).f1)) || (!(x241002_34 == ((rd_T61 aa x24_1).f2))))) = true := c50
             clear c50
             have H' := zA H
             clear H
             have hnb51 := bk.out
             have hnc51 := a3.out
             have hnb52 := be.out
             have hnc52 := aZ.out
             have hnb53 := bx.out
             have hnc53 := a8.out
             have hnb54 := bh.out
             have hnc54 := a5.out
             have hcz55_0 : wc.cell? ⟨aJ, 0, none⟩ = some (.int .i64 x240000_11) := (blk_cell ap.out 0).trans rfl
             have hcz55_1 : wc.cell? ⟨aJ, 1, none⟩ = some (.int .i64 x240001_11) := (blk_cell ap.out 1).trans rfl
             have hcz55_2 : wc.cell? ⟨aJ, 2, none⟩ = some (.int .i64 x240002_11) := (blk_cell ap.out 2).trans rfl
             have hfz55_0 := blk_frozen ap.out 0
             have hfz55_1 := blk_frozen ap.out 1
             have hfz55_2 := blk_frozen ap.out 2
             have hnb56 := bi.out
             have hnc56 := a7.out
             have hnb57 := bd.out
             have hnc57 := a4.out
             have hnb58 := bj.out
             have hnc58 := bz.out
             have hcz59_0 : wc.cell? ⟨aC, 0, none⟩ = some (.int .i64 ((rd_T61 aa x24_1).f0)) := (blk_cell am.out 0).trans rfl
             have hcz59_1 : wc.cell? ⟨aC, 1, none⟩ = some (.int .i64 ((rd_T61 aa x24_1).f1)) := (blk_cell am.out 1).trans rfl
             have hcz59_2 : wc.cell? ⟨aC, 2, none⟩ = some (.int .i64 ((rd_T61 aa x24_1).f2)) := (blk_cell am.out 2).trans rfl
             have hfz59_0 := blk_frozen am.out 0
             have hfz59_1 := blk_frozen am.out 1
             have hfz59_2 := blk_frozen am.out 2
             have hnb60 := bq.out
             have hnc60 := bf.out
             have hnb61 := br.out
             have hnc61 := bg.out
             have hcz62_0 : wc.cell? ⟨aT, 0, none⟩ = some (.int .i64 x241000_34) := (blk_cell aH.out 0).trans rfl
             have hcz62_1 : wc.cell? ⟨aT, 1, none⟩ = some (.int .i64 x241001_34) := (blk_cell aH.out 1).trans rfl
             have hcz62_2 : wc.cell? ⟨aT, 2, none⟩ = some (.int .i64 x241002_34) := (blk_cell aH.out 2).trans rfl
             have hfz62_0 := blk_frozen aH.out 0
             have hfz62_1 := blk_frozen aH.out 1
             have hfz62_2 := blk_frozen aH.out 2
             go_wp2
             go_meet
             case rel => exact ⟨_, ((!(x240000_11 == x241000_34) || (!(x240001_11 == x241001_34) || (!(x240002_11 == x241002_34))))), zqQ, H', ⟨by have := HK1.out; have := HJ11.out; have := HJ34.out; first | omega | exact Nat.le_refl _⟩, ⟨zqC aj.out⟩, ⟨zqB af.out⟩, ⟨zqB ag.out⟩, ⟨zqB am.out⟩, ⟨zqB ap.out⟩, ⟨zqB aH.out⟩, ⟨by repeat (first | (with_reducible first | exact HB.out | apply below_alloc | apply pw_below_drewN | apply below_drew1 | refine below_set ?_ an.out | refine below_set ?_ ao.out | refine below_set ?_ aR.out | refine below_set ?_ aU.out | refine below_set ?_ aV.out) | exact HB.out)⟩⟩
            ·
             rw [if_neg c50] at H
             have c50b0 : (!(x241000_34 == ((rd_T61 aa x24_1).f0)) || (!(x241001_34 == ((rd_T61 aa x24_1).f1)) || (!(x241002_34 == ((rd_T61 aa x24_1).f2))))) = false := by simpa using c50
             clear c50
             have H' := zA H
             clear H
             have hnb63 := bk.out
             have hnc63 := a3.out
             have hnb64 := be.out
             have hnc64 := aZ.out
             have hnb65 := bx.out
             have hnc65 := a8.out
             have hnb66 := bh.out
             have hnc66 := a5.out
             have hcz67_0 : wc.cell? ⟨aJ, 0, none⟩ = some (.int .i64 x240000_11) := (blk_cell ap.out 0).trans rfl
             have hcz67_1 : wc.cell? ⟨aJ, 1, none⟩ = some (.int .i64 x240001_11) := (blk_cell ap.out 1).trans rfl
             have hcz67_2 : wc.cell? ⟨aJ, 2, none⟩ = some (.int .i64 x240002_11) := (blk_cell ap.out 2).trans rfl
             have hfz67_0 := blk_frozen ap.out 0
             have hfz67_1 := blk_frozen ap.out 1
             have hfz67_2 := blk_frozen ap.out 2
             have hnb68 := bi.out
             have hnc68 := a7.out
             have hnb69 := bd.out
             have hnc69 := a4.out
             have hnb70 := bj.out
             have hnc70 := bz.out
             have hcz71_0 : wc.cell? ⟨aC, 0, none⟩ = some (.int .i64 ((rd_T61 aa x24_1).f0)) := (blk_cell am.out 0).trans rfl
             have hcz71_1 : wc.cell? ⟨aC, 1, none⟩ = some (.int .i64 ((rd_T61 aa x24_1).f1)) := (blk_cell am.out 1).trans rfl
             have hcz71_2 : wc.cell? ⟨aC, 2, none⟩ = some (.int .i64 ((rd_T61 aa x24_1).f2)) := (blk_cell am.out 2).trans rfl
             have hfz71_0 := blk_frozen am.out 0
             have hfz71_1 := blk_frozen am.out 1
             have hfz71_2 := blk_frozen am.out 2
             have hnb72 := bq.out
             have hnc72 := bf.out
             have hnb73 := br.out
             have hnc73 := bg.out
             have hcz74_0 : wc.cell? ⟨aT, 0, none⟩ = some (.int .i64 x241000_34) := (blk_cell aH.out 0).trans rfl
             have hcz74_1 : wc.cell? ⟨aT, 1, none⟩ = some (.int .i64 x241001_34) := (blk_cell aH.out 1).trans rfl
             have hcz74_2 : wc.cell? ⟨aT, 2, none⟩ = some (.int .i64 x241002_34) := (blk_cell aH.out 2).trans rfl
             have hfz74_0 := blk_frozen aH.out 0
             have hfz74_1 := blk_frozen aH.out 1
             have hfz74_2 := blk_frozen aH.out 2
             go_wp2
             go_meet
             case rel => exact ⟨_, (false), zqQ, H', ⟨by have := HK1.out; have := HJ11.out; have := HJ34.out; first | omega | exact Nat.le_refl _⟩, ⟨zqC aj.out⟩, ⟨zqB af.out⟩, ⟨zqB ag.out⟩, ⟨zqB am.out⟩, ⟨zqB ap.out⟩, ⟨zqB aH.out⟩, ⟨by repeat (first | (with_reducible first | exact HB.out | apply below_alloc | apply pw_below_drewN | apply below_drew1 | refine below_set ?_ an.out | refine below_set ?_ ao.out | refine below_set ?_ aR.out | refine below_set ?_ aU.out | refine below_set ?_ aV.out) | exact HB.out)⟩⟩
           ·
            rw [if_neg c49] at H
            have c49b0 : (!(x240000_11 == ((rd_T61 aa x24_1).f0)) || (!(x240001_11 == ((rd_T61 aa x24_1).f1)) || (!(x240002_11 == ((rd_T61 aa x24_1).f2))))) = false := by simpa using c49
            clear c49
            (first | rw [c49b0] | (simp only [i64_w, i32_w]; rw [c49b0]) | skip)
            have H' := zA H
            clear H
            have hnb75 := bk.out
            have hnc75 := a3.out
            have hnb76 := be.out
            have hnc76 := aZ.out
            have hnb77 := bx.out
            have hnc77 := a8.out
            have hnb78 := bh.out
            have hnc78 := a5.out
            have hcz79_0 : wc.cell? ⟨aJ, 0, none⟩ = some (.int .i64 x240000_11) := (blk_cell ap.out 0).trans rfl
            have hcz79_1 : wc.cell? ⟨aJ, 1, none⟩ = some (.int .i64 x240001_11) := (blk_cell ap.out 1).trans rfl
            have hcz79_2 : wc.cell? ⟨aJ, 2, none⟩ = some (.int .i64 x240002_11) := (blk_cell ap.out 2).trans rfl
            have hfz79_0 := blk_frozen ap.out 0
            have hfz79_1 := blk_frozen ap.out 1
            have hfz79_2 := blk_frozen ap.out 2
            have hnb80 := bi.out
            have hnc80 := a7.out
            have hnb81 := bd.out
            have hnc81 := a4.out
            have hnb82 := bj.out
            have hnc82 := bz.out
            have hcz83_0 : wc.cell? ⟨aC, 0, none⟩ = some (.int .i64 ((rd_T61 aa x24_1).f0)) := (blk_cell am.out 0).trans rfl
            have hcz83_1 : wc.cell? ⟨aC, 1, none⟩ = some (.int .i64 ((rd_T61 aa x24_1).f1)) := (blk_cell am.out 1).trans rfl
            have hcz83_2 : wc.cell? ⟨aC, 2, none⟩ = some (.int .i64 ((rd_T61 aa x24_1).f2)) := (blk_cell am.out 2).trans rfl
            have hfz83_0 := blk_frozen am.out 0
            have hfz83_1 := blk_frozen am.out 1
            have hfz83_2 := blk_frozen am.out 2
            go_wp2
            go_meet
            case rel => exact ⟨_, (false), zqQ, H', ⟨by have := HK1.out; have := HJ11.out; have := HJ34.out; first | omega | exact Nat.le_refl _⟩, ⟨zqC aj.out⟩, ⟨zqB af.out⟩, ⟨zqB ag.out⟩, ⟨zqB am.out⟩, ⟨zqB ap.out⟩, ⟨zqB aH.out⟩, ⟨by repeat (first | (with_reducible first | exact HB.out | apply below_alloc | apply pw_below_drewN | apply below_drew1 | refine below_set ?_ an.out | refine below_set ?_ ao.out | refine below_set ?_ aR.out | refine below_set ?_ aU.out | refine below_set ?_ aV.out) | exact HB.out)⟩⟩
          case rest =>
           clear bM
           obtain ⟨kq, x49_47, rfl, HA, HJ47, aj, af, ag, am, ap, aH, HB⟩ := hcut
           cases kq with
           | zero => exact absurd HA.out (by simp [edit_meet.j3])
           | succ kj47 =>
            have H := HA.out
            clear HA
            simp only [edit_meet.j3] at H
            have bN := zA H
            clear H
            go_upto_if 49 with (fail)
            go_cut [49] (fun v49 wc => ∃ (kq : Nat) (x49_83 : Bool), v49 = .bool x49_83 ∧ Aside0 (edit_meet.j4 kq x6_1 x24_1 t237 t238 aa (aa.length : Int) x24_1 x49_83 aa ah ae ai ac ab ((rd_T61 aa x24_1).f0) ((rd_T61 aa x24_1).f1) ((rd_T61 aa x24_1).f2) x240000_11 x240001_11 x240002_11 x241000_34 x241001_34 x241002_34 = some (r1, r2)) ∧ Aside0 (kq ≤ kj47) ∧ Aside0 (Kd.R k108 108 wc w.heap.size (fun _ => True) u6 x6_1) ∧ Aside0 (wc.heap[ak]? = some (.cells #[(.slice (some ad235) aa.length ar), (.slice aw ah.length au), (.slice aE ae.length av)] 28 (0, 0))) ∧ Aside0 (wc.heap[al]? = some (.cells #[(.slice ax ai.length ay), (.slice aD ac.length az), (.slice aM ab.length aA)] 28 (0, 0))) ∧ Aside0 (wc.heap[aC]? = some (.cells #[.int .i64 ((rd_T61 aa x24_1).f0), .int .i64 ((rd_T61 aa x24_1).f1), .int .i64 ((rd_T61 aa x24_1).f2)] 61 (0, 0))) ∧ Aside0 (wc.heap[aJ]? = some (.cells #[.int .i64 x240000_11, .int .i64 x240001_11, .int .i64 x240002_11] 61 (0, 0))) ∧ Aside0 (wc.heap[aT]? = some (.cells #[.int .i64 x241000_34, .int .i64 x241001_34, .int .i64 x241002_34] 61 (0, 0))) ∧ Aside0 (Below w.heap.size w wc))
            case first =>
             have H := bN.out
             clear bN
             by_cases c85 : x49_47 = true
             ·
              subst c85
              have H1 : (edit_meet.j4 kj47 x6_1 x24_1 t237 t238 aa (aa.length : Int) x24_1 true aa ah ae ai ac ab ((rd_T61 aa x24_1).f0) ((rd_T61 aa x24_1).f1) ((rd_T61 aa x24_1).f2) x240000_11 x240001_11 x240002_11 x241000_34 x241001_34 x241002_34) = some (r1, r2) := by rw [if_pos rfl] at H; exact H
              clear H; have H := H1; clear H1
              have H' := zA H
              clear H
              go_wp2
              go_meet
              case rel => exact ⟨_, (true), zqQ, H', ⟨by have := HK1.out; have := HJ11.out; have := HJ34.out; have := HJ47.out; first | omega | exact Nat.le_refl _⟩, ⟨zqC aj.out⟩, ⟨zqB af.out⟩, ⟨zqB ag.out⟩, ⟨zqB am.out⟩, ⟨zqB ap.out⟩, ⟨zqB aH.out⟩, ⟨by repeat (first | (with_reducible first | exact HB.out | apply below_alloc | apply pw_below_drewN | apply below_drew1 | refine below_set ?_ an.out | refine below_set ?_ ao.out | refine below_set ?_ aR.out | refine below_set ?_ aU.out | refine below_set ?_ aV.out) | exact HB.out)⟩⟩
             ·
              replace c85 := Bool.eq_false_iff.mpr c85
              subst c85
              have H1 : (if t237 < 0 then ((edit_Patch_copies.f kj47 ai ac ab x24_1).bind fun t243 => (if t243 > 0 then (edit_meet.j4 kj47 x6_1 x24_1 t237 t238 aa (aa.length : Int) x24_1 (decide (t243 > 0)) aa ah ae ai ac ab ((rd_T61 aa x24_1).f0) ((rd_T61 aa x24_1).f1) ((rd_T61 aa x24_1).f2) x240000_11 x240001_11 x240002_11 x241000_34 x241001_34 x241002_34) else (if t238 < 0 then ((edit_Patch_copies.f kj47 aa ah ae x24_1).bind fun t244 => (edit_meet.j4 kj47 x6_1 x24_1 t237 t238 aa (aa.length : Int) x24_1 (decide (t244 > 0)) aa ah ae ai ac ab ((rd_T61 aa x24_1).f0) ((rd_T61 aa x24_1).f1) ((rd_T61 aa x24_1).f2) x240000_11 x240001_11 x240002_11 x241000_34 x241001_34 x241002_34)) else (edit_meet.j4 kj47 x6_1 x24_1 t237 t238 aa (aa.length : Int) x24_1 false aa ah ae ai ac ab ((rd_T61 aa x24_1).f0) ((rd_T61 aa x24_1).f1) ((rd_T61 aa x24_1).f2) x240000_11 x240001_11 x240002_11 x241000_34 x241001_34 x241002_34)))) else (if t238 < 0 then ((edit_Patch_copies.f kj47 aa ah ae x24_1).bind fun t245 => (edit_meet.j4 kj47 x6_1 x24_1 t237 t238 aa (aa.length : Int) x24_1 (decide (t245 > 0)) aa ah ae ai ac ab ((rd_T61 aa x24_1).f0) ((rd_T61 aa x24_1).f1) ((rd_T61 aa x24_1).f2) x240000_11 x240001_11 x240002_11 x241000_34 x241001_34 x241002_34)) else (edit_meet.j4 kj47 x6_1 x24_1 t237 t238 aa (aa.length : Int) x24_1 false aa ah ae ai ac ab ((rd_T61 aa x24_1).f0) ((rd_T61 aa x24_1).f1) ((rd_T61 aa x24_1).f2) x240000_11 x240001_11 x240002_11 x241000_34 x241001_34 x241002_34))) = some (r1, r2) := by rw [if_neg (show ¬ (false = true) by decide)] at H; exact H
              clear H; have H := H1; clear H1
              by_cases c86 : t237 < 0
              ·
               rw [if_pos c86] at H
               have c86b0 : decide (t237 < 0) = true := decide_eq_true c86
               clear c86
               (first | rw [c86b0] | (simp only [i64_w, i32_w]; rw [c86b0]) | skip)
               replace H := Option.bind_eq_some_iff.mp H
               obtain ⟨t243, A870, H⟩ := H
               replace H : (if t243 > 0 then (edit_meet.j4 kj47 x6_1 x24_1 t237 t238 aa (aa.length : Int) x24_1 (decide (t243 > 0)) aa ah ae ai ac ab ((rd_T61 aa x24_1).f0) ((rd_T61 aa x24_1).f1) ((rd_T61 aa x24_1).f2) x240000_11 x240001_11 x240002_11 x241000_34 x241001_34 x241002_34) else (if t238 < 0 then ((edit_Patch_copies.f kj47 aa ah ae x24_1).bind fun t244 => (edit_meet.j4 kj47 x6_1 x24_1 t237 t238 aa (aa.length : Int) x24_1 (decide (t244 > 0)) aa ah ae ai ac ab ((rd_T61 aa x24_1).f0) ((rd_T61 aa x24_1).f1) ((rd_T61 aa x24_1).f2) x240000_11 x240001_11 x240002_11 x241000_34 x241001_34 x241002_34)) else (edit_meet.j4 kj47 x6_1 x24_1 t237 t238 aa (aa.length : Int) x24_1 false aa ah ae ai ac ab ((rd_T61 aa x24_1).f0) ((rd_T61 aa x24_1).f1) ((rd_T61 aa x24_1).f2) x240000_11 x240001_11 x240002_11 x241000_34 x241001_34 x241002_34))) = some (r1, r2) := H
               have A87 := zA A870
               clear A870
               by_cases c88 : t243 > 0
               ·
                rw [if_pos c88] at H
                have c88b0 : decide (0 < t243) = true := decide_eq_true c88
                clear c88
                have H' := zA H
                clear H
                have hnb89 := bc.out
                have hnc89 := bb.out
                have hnb90 := a4.out
                have hnc90 := bd.out
                have hnb91 := aZ.out
                have hnc91 := be.out
                have hnb92 := bg.out
                have hnc92 := br.out
                have hcz93_0 : wc.cell? ⟨al, 0, none⟩ = some (.slice ax ai.length ay) := (blk_cell ag.out 0).trans rfl
                have hcz93_1 : wc.cell? ⟨al, 1, none⟩ = some (.slice aD ac.length az) := (blk_cell ag.out 1).trans rfl
                have hcz93_2 : wc.cell? ⟨al, 2, none⟩ = some (.slice aM ab.length aA) := (blk_cell ag.out 2).trans rfl
                have hfz93_0 := blk_frozen ag.out 0
                have hfz93_1 := blk_frozen ag.out 1
                have hfz93_2 := blk_frozen ag.out 2
                go_wp2_with (first | (go_at_call 105; (with_reducible refine (edit_Patch_copies.calls kj47 _ _ ai _ _ ac _ _ ab x24_1 t243 _ ?side1 ?side2 ?side3 ?side4 ?side5 ?side6 A87.out).mono ?_); (case side1 => exact zqK (Kd.C_below bG.out HB.out)); (case side2 => exact bH.out); (case side3 => exact zqK (Kd.C_below bo.out HB.out)); (case side4 => exact bI.out); (case side5 => exact zqK (Kd.C_below bp.out HB.out)); (case side6 => exact bJ.out); rintro e w94 ⟨rfl, hb⟩; replace aj := zA (Kd.R_below (zqC aj.out) hb); replace af := zA (blk_below (g := ak) (o := .cells #[.slice (some ad235) aa.length ar, .slice aw ah.length au, .slice aE ae.length av] 28 (0, 0)) (zqB af.out) hb); replace ag := zA (blk_below (g := al) (o := .cells #[.slice ax ai.length ay, .slice aD ac.length az, .slice aM ab.length aA] 28 (0, 0)) (zqB ag.out) hb); replace am := zA (blk_below (g := aC) (o := .cells #[.int .i64 ((rd_T61 aa x24_1).f0), .int .i64 ((rd_T61 aa x24_1).f1), .int .i64 ((rd_T61 aa x24_1).f2)] 61 (0, 0)) (zqB am.out) hb); replace ap := zA (blk_below (g := aJ) (o := .cells #[.int .i64 x240000_11, .int .i64 x240001_11, .int .i64 x240002_11] 61 (0, 0)) (zqB ap.out) hb); replace aH := zA (blk_below (g := aT) (o := .cells #[.int .i64 x241000_34, .int .i64 x241001_34, .int .i64 x241002_34] 61 (0, 0)) (zqB aH.out) hb); replace HB := zA (below_step (by repeat (first | (with_reducible first | exact HB.out | apply below_alloc | apply pw_below_drewN | apply below_drew1 | refine below_set ?_ an.out | refine below_set ?_ ao.out | refine below_set ?_ aR.out | refine below_set ?_ aU.out | refine below_set ?_ aV.out) | exact HB.out)) hb); (try clear hb); (try clear hb2); (try clear hk); (try clear hi)))
                go_meet
                case rel => exact ⟨_, (decide (t243 > 0)), zqQ, H', ⟨by have := HK1.out; have := HJ11.out; have := HJ34.out; have := HJ47.out; first | omega | exact Nat.le_refl _⟩, ⟨zqC aj.out⟩, ⟨zqB af.out⟩, ⟨zqB ag.out⟩, ⟨zqB am.out⟩, ⟨zqB ap.out⟩, ⟨zqB aH.out⟩, ⟨by repeat (first | (with_reducible first | exact HB.out | apply below_alloc | apply pw_below_drewN | apply below_drew1 | refine below_set ?_ an.out | refine below_set ?_ ao.out | refine below_set ?_ aR.out | refine below_set ?_ aU.out | refine below_set ?_ aV.out) | exact HB.out)⟩⟩
               ·
                rw [if_neg c88] at H
                have c88b0 : decide (0 < t243) = false := decide_eq_false c88
                clear c88
                by_cases c95 : t238 < 0
                ·
                 rw [if_pos c95] at H
                 have c95b0 : decide (t238 < 0) = true := decide_eq_true c95
                 clear c95
                 replace H := Option.bind_eq_some_iff.mp H
                 obtain ⟨t244, A960, H⟩ := H
                 replace H : (edit_meet.j4 kj47 x6_1 x24_1 t237 t238 aa (aa.length : Int) x24_1 (decide (t244 > 0)) aa ah ae ai ac ab ((rd_T61 aa x24_1).f0) ((rd_T61 aa x24_1).f1) ((rd_T61 aa x24_1).f2) x240000_11 x240001_11 x240002_11 x241000_34 x241001_34 x241002_34) = some (r1, r2) := H
                 have A96 := zA A960
                 clear A960
                 have H' := zA H
                 clear H
                 have hnb97 := bc.out
                 have hnc97 := bb.out
                 have hnb98 := a4.out
                 have hnc98 := bd.out
                 have hnb99 := aZ.out
                 have hnc99 := be.out
                 have hnb100 := bg.out
                 have hnc100 := br.out
                 have hcz101_0 : wc.cell? ⟨al, 0, none⟩ = some (.slice ax ai.length ay) := (blk_cell ag.out 0).trans rfl
                 have hcz101_1 : wc.cell? ⟨al, 1, none⟩ = some (.slice aD ac.length az) := (blk_cell ag.out 1).trans rfl
                 have hcz101_2 : wc.cell? ⟨al, 2, none⟩ = some (.slice aM ab.length aA) := (blk_cell ag.out 2).trans rfl
                 have hfz101_0 := blk_frozen ag.out 0
                 have hfz101_1 := blk_frozen ag.out 1
                 have hfz101_2 := blk_frozen ag.out 2
                 go_wp2_with (first | (go_at_call 105; (with_reducible refine (edit_Patch_copies.calls kj47 _ _ ai _ _ ac _ _ ab x24_1 t243 _ ?side1 ?side2 ?side3 ?side4 ?side5 ?side6 A87.out).mono ?_); (case side1 => exact zqK (Kd.C_below bG.out HB.out)); (case side2 => exact bH.out); (case side3 => exact zqK (Kd.C_below bo.out HB.out)); (case side4 => exact bI.out); (case side5 => exact zqK (Kd.C_below bp.out HB.out)); (case side6 => exact bJ.out); rintro e w102 ⟨rfl, hb⟩; replace aj := zA (Kd.R_below (zqC aj.out) hb); replace af := zA (blk_below (g := ak) (o := .cells #[.slice (some ad235) aa.length ar, .slice aw ah.length au, .slice aE ae.length av] 28 (0, 0)) (zqB af.out) hb); replace ag := zA (blk_below (g := al) (o := .cells #[.slice ax ai.length ay, .slice aD ac.length az, .slice aM ab.length aA] 28 (0, 0)) (zqB ag.out) hb); replace am := zA (blk_below (g := aC) (o := .cells #[.int .i64 ((rd_T61 aa x24_1).f0), .int .i64 ((rd_T61 aa x24_1).f1), .int .i64 ((rd_T61 aa x24_1).f2)] 61 (0, 0)) (zqB am.out) hb); replace ap := zA (blk_below (g := aJ) (o := .cells #[.int .i64 x240000_11, .int .i64 x240001_11, .int .i64 x240002_11] 61 (0, 0)) (zqB ap.out) hb); replace aH := zA (blk_below (g := aT) (o := .cells #[.int .i64 x241000_34, .int .i64 x241001_34, .int .i64 x241002_34] 61 (0, 0)) (zqB aH.out) hb); replace HB := zA (below_step (by repeat (first | (with_reducible first | exact HB.out | apply below_alloc | apply pw_below_drewN | apply below_drew1 | refine below_set ?_ an.out | refine below_set ?_ ao.out | refine below_set ?_ aR.out | refine below_set ?_ aU.out | refine below_set ?_ aV.out) | exact HB.out)) hb); (try clear hb); (try clear hb2); (try clear hk); (try clear hi); have hnb103 := a7.out; have hnc103 := bi.out; have hnb104 := a3.out; have hnc104 := bk.out; have hnb105 := bf.out; have hnc105 := bq.out; have hcz106_0 : w102.cell? ⟨ak, 0, none⟩ = some (.slice (some ad235) aa.length ar) := (blk_cell af.out 0).trans rfl; have hcz106_1 : w102.cell? ⟨ak, 1, none⟩ = some (.slice aw ah.length au) := (blk_cell af.out 1).trans rfl; have hcz106_2 : w102.cell? ⟨ak, 2, none⟩ = some (.slice aE ae.length av) := (blk_cell af.out 2).trans rfl; have hfz106_0 := blk_frozen af.out 0; have hfz106_1 := blk_frozen af.out 1; have hfz106_2 := blk_frozen af.out 2) | (go_at_call 105; (with_reducible refine (edit_Patch_copies.calls kj47 _ _ aa _ _ ah _ _ ae x24_1 t244 _ ?side1 ?side2 ?side3 ?side4 ?side5 ?side6 A96.out).mono ?_); (case side1 => exact zqK (Kd.C_below bA.out HB.out)); (case side2 => exact bD.out); (case side3 => exact zqK (Kd.C_below bv.out HB.out)); (case side4 => exact bE.out); (case side5 => exact zqK (Kd.C_below bw.out HB.out)); (case side6 => exact bF.out); rintro e w107 ⟨rfl, hb⟩; replace aj := zA (Kd.R_below (zqC aj.out) hb); replace af := zA (blk_below (g := ak) (o := .cells #[.slice (some ad235) aa.length ar, .slice aw ah.length au, .slice aE ae.length av] 28 (0, 0)) (zqB af.out) hb); replace ag := zA (blk_below (g := al) (o := .cells #[.slice ax ai.length ay, .slice aD ac.length az, .slice aM ab.length aA] 28 (0, 0)) (zqB ag.out) hb); replace am := zA (blk_below (g := aC) (o := .cells #[.int .i64 ((rd_T61 aa x24_1).f0), .int .i64 ((rd_T61 aa x24_1).f1), .int .i64 ((rd_T61 aa x24_1).f2)] 61 (0, 0)) (zqB am.out) hb); replace ap := zA (blk_below (g := aJ) (o := .cells #[.int .i64 x240000_11, .int .i64 x240001_11, .int .i64 x240002_11] 61 (0, 0)) (zqB ap.out) hb); replace aH := zA (blk_below (g := aT) (o := .cells #[.int .i64 x241000_34, .int .i64 x241001_34, .int .i64 x241002_34] 61 (0, 0)) (zqB aH.out) hb); replace HB := zA (below_step (by repeat (first | (with_reducible first | exact HB.out | apply below_alloc | apply pw_below_drewN | apply below_drew1 | refine below_set ?_ an.out | refine below_set ?_ ao.out | refine below_set ?_ aR.out | refine below_set ?_ aU.out | refine below_set ?_ aV.out) | exact HB.out)) hb); (try clear hb); (try clear hb2); (try clear hk); (try clear hi)))
                 go_meet
                 case rel => exact ⟨_, (decide (t244 > 0)), zqQ, H', ⟨by have := HK1.out; have := HJ11.out; have := HJ34.out; have := HJ47.out; first | omega | exact Nat.le_refl _⟩, ⟨zqC aj.out⟩, ⟨zqB af.out⟩, ⟨zqB ag.out⟩, ⟨zqB am.out⟩, ⟨zqB ap.out⟩, ⟨zqB aH.out⟩, ⟨by repeat (first | (with_reducible first | exact HB.out | apply below_alloc | apply pw_below_drewN | apply below_drew1 | refine below_set ?_ an.out | refine below_set ?_ ao.out | refine below_set ?_ aR.out | refine below_set ?_ aU.out | refine below_set ?_ aV.out) | exact HB.out)⟩⟩
                ·
                 rw [if_neg c95] at H
                 have c95b0 : decide (t238 < 0) = false := decide_eq_false c95
                 clear c95
                 have H' := zA H
                 clear H
                 have hnb108 := bc.out
                 have hnc108 := bb.out
                 have hnb109 := a4.out
                 have hnc109 := bd.out
                 have hnb110 := aZ.out
                 have hnc110 := be.out
                 have hnb111 := bg.out
                 have hnc111 := br.out
                 have hcz112_0 : wc.cell? ⟨al, 0, none⟩ = some (.slice ax ai.length ay) := (blk_cell ag.out 0).trans rfl
                 have hcz112_1 : wc.cell? ⟨al, 1, none⟩ = some (.slice aD ac.length az) := (blk_cell ag.out 1).trans rfl
                 have hcz112_2 : wc.cell? ⟨al, 2, none⟩ = some (.slice aM ab.length aA) := (blk_cell ag.out 2).trans rfl
                 have hfz112_0 := blk_frozen ag.out 0
                 have hfz112_1 := blk_frozen ag.out 1
                 have hfz112_2 := blk_frozen ag.out 2
                 go_wp2_with (first | (go_at_call 105; (with_reducible refine (edit_Patch_copies.calls kj47 _ _ ai _ _ ac _ _ ab x24_1 t243 _ ?side1 ?side2 ?side3 ?side4 ?side5 ?side6 A87.out).mono ?_); (case side1 => exact zqK (Kd.C_below bG.out HB.out)); (case side2 => exact bH.out); (case side3 => exact zqK (Kd.C_below bo.out HB.out)); (case side4 => exact bI.out); (case side5 => exact zqK (Kd.C_below bp.out HB.out)); (case side6 => exact bJ.out); rintro e w113 ⟨rfl, hb⟩; replace aj := zA (Kd.R_below (zqC aj.out) hb); replace af := zA (blk_below (g := ak) (o := .cells #[.slice (some ad235) aa.length ar, .slice aw ah.length au, .slice aE ae.length av] 28 (0, 0)) (zqB af.out) hb); replace ag := zA (blk_below (g := al) (o := .cells #[.slice ax ai.length ay, .slice aD ac.length az, .slice aM ab.length aA] 28 (0, 0)) (zqB ag.out) hb); replace am := zA (blk_below (g := aC) (o := .cells #[.int .i64 ((rd_T61 aa x24_1).f0), .int .i64 ((rd_T61 aa x24_1).f1), .int .i64 ((rd_T61 aa x24_1).f2)] 61 (0, 0)) (zqB am.out) hb); replace ap := zA (blk_below (g := aJ) (o := .cells #[.int .i64 x240000_11, .int .i64 x240001_11, .int .i64 x240002_11] 61 (0, 0)) (zqB ap.out) hb); replace aH := zA (blk_below (g := aT) (o := .cells #[.int .i64 x241000_34, .int .i64 x241001_34, .int .i64 x241002_34] 61 (0, 0)) (zqB aH.out) hb); replace HB := zA (below_step (by repeat (first | (with_reducible first | exact HB.out | apply below_alloc | apply pw_below_drewN | apply below_drew1 | refine below_set ?_ an.out | refine below_set ?_ ao.out | refine below_set ?_ aR.out | refine below_set ?_ aU.out | refine below_set ?_ aV.out) | exact HB.out)) hb); (try clear hb); (try clear hb2); (try clear hk); (try clear hi)))
                 go_meet
                 case rel => exact ⟨_, (false), zqQ, H', ⟨by have := HK1.out; have := HJ11.out; have := HJ34.out; have := HJ47.out; first | omega | exact Nat.le_refl _⟩, ⟨zqC aj.out⟩, ⟨zqB af.out⟩, ⟨zqB ag.out⟩, ⟨zqB am.out⟩, ⟨zqB ap.out⟩, ⟨zqB aH.out⟩, ⟨by repeat (first | (with_reducible first | exact HB.out | apply below_alloc | apply pw_below_drewN | apply below_drew1 | refine below_set ?_ an.out | refine below_set ?_ ao.out | refine below_set ?_ aR.out | refine below_set ?_ aU.out | refine below_set ?_ aV.out) | exact HB.out)⟩⟩
              ·
               rw [if_neg c86] at H
               have c86b0 : decide (t237 < 0) = false := decide_eq_false c86
               clear c86
               (first | rw [c86b0] | (simp only [i64_w, i32_w]; rw [c86b0]) | skip)
               by_cases c114 : t238 < 0
               ·
                rw [if_pos c114] at H
                have c114b0 : decide (t238 < 0) = true := decide_eq_true c114
                clear c114
                replace H := Option.bind_eq_some_iff.mp H
                obtain ⟨t245, A1150, H⟩ := H
                replace H : (edit_meet.j4 kj47 x6_1 x24_1 t237 t238 aa (aa.length : Int) x24_1 (decide (t245 > 0)) aa ah ae ai ac ab ((rd_T61 aa x24_1).f0) ((rd_T61 aa x24_1).f1) ((rd_T61 aa x24_1).f2) x240000_11 x240001_11 x240002_11 x241000_34 x241001_34 x241002_34) = some (r1, r2) := H
                have A115 := zA A1150
                clear A1150
                have H' := zA H
                clear H
                have hnb116 := bb.out
                have hnc116 := bc.out
                have hnb117 := a7.out
                have hnc117 := bi.out
                have hnb118 := a3.out
                have hnc118 := bk.out
                have hnb119 := bf.out
                have hnc119 := bq.out
                have hcz120_0 : wc.cell? ⟨ak, 0, none⟩ = some (.slice (some ad235) aa.length ar) := (blk_cell af.out 0).trans rfl
                have hcz120_1 : wc.cell? ⟨ak, 1, none⟩ = some (.slice aw ah.length au) := (blk_cell af.out 1).trans rfl
                have hcz120_2 : wc.cell? ⟨ak, 2, none⟩ = some (.slice aE ae.length av) := (blk_cell af.out 2).trans rfl
                have hfz120_0 := blk_frozen af.out 0
                have hfz120_1 := blk_frozen af.out 1
                have hfz120_2 := blk_frozen af.out 2
                go_wp2_with (first | (go_at_call 105; (with_reducible refine (edit_Patch_copies.calls kj47 _ _ aa _ _ ah _ _ ae x24_1 t245 _ ?side1 ?side2 ?side3 ?side4 ?side5 ?side6 A115.out).mono ?_); (case side1 => exact zqK (Kd.C_below bA.out HB.out)); (case side2 => exact bD.out); (case side3 => exact zqK (Kd.C_below bv.out HB.out)); (case side4 => exact bE.out); (case side5 => exact zqK (Kd.C_below bw.out HB.out)); (case side6 => exact bF.out); rintro e w121 ⟨rfl, hb⟩; replace aj := zA (Kd.R_below (zqC aj.out) hb); replace af := zA (blk_below (g := ak) (o := .cells #[.slice (some ad235) aa.length ar, .slice aw ah.length au, .slice aE ae.length av] 28 (0, 0)) (zqB af.out) hb); replace ag := zA (blk_below (g := al) (o := .cells #[.slice ax ai.length ay, .slice aD ac.length az, .slice aM ab.length aA] 28 (0, 0)) (zqB ag.out) hb); replace am := zA (blk_below (g := aC) (o := .cells #[.int .i64 ((rd_T61 aa x24_1).f0), .int .i64 ((rd_T61 aa x24_1).f1), .int .i64 ((rd_T61 aa x24_1).f2)] 61 (0, 0)) (zqB am.out) hb); replace ap := zA (blk_below (g := aJ) (o := .cells #[.int .i64 x240000_11, .int .i64 x240001_11, .int .i64 x240002_11] 61 (0, 0)) (zqB ap.out) hb); replace aH := zA (blk_below (g := aT) (o := .cells #[.int .i64 x241000_34, .int .i64 x241001_34, .int .i64 x241002_34] 61 (0, 0)) (zqB aH.out) hb); replace HB := zA (below_step (by repeat (first | (with_reducible first | exact HB.out | apply below_alloc | apply pw_below_drewN | apply below_drew1 | refine below_set ?_ an.out | refine below_set ?_ ao.out | refine below_set ?_ aR.out | refine below_set ?_ aU.out | refine below_set ?_ aV.out) | exact HB.out)) hb); (try clear hb); (try clear hb2); (try clear hk); (try clear hi)))
                go_meet
                case rel => exact ⟨_, (decide (t245 > 0)), zqQ, H', ⟨by have := HK1.out; have := HJ11.out; have := HJ34.out; have := HJ47.out; first | omega | exact Nat.le_refl _⟩, ⟨zqC aj.out⟩, ⟨zqB af.out⟩, ⟨zqB ag.out⟩, ⟨zqB am.out⟩, ⟨zqB ap.out⟩, ⟨zqB aH.out⟩, ⟨by repeat (first | (with_reducible first | exact HB.out | apply below_alloc | apply pw_below_drewN | apply below_drew1 | refine below_set ?_ an.out | refine below_set ?_ ao.out | refine below_set ?_ aR.out | refine below_set ?_ aU.out | refine below_set ?_ aV.out) | exact HB.out)⟩⟩
               ·
                rw [if_neg c114] at H
                have c114b0 : decide (t238 < 0) = false := decide_eq_false c114
                clear c114
                have H' := zA H
                clear H
                go_wp2
                go_meet
                case rel => exact ⟨_, (false), zqQ, H', ⟨by have := HK1.out; have := HJ11.out; have := HJ34.out; have := HJ47.out; first | omega | exact Nat.le_refl _⟩, ⟨zqC aj.out⟩, ⟨zqB af.out⟩, ⟨zqB ag.out⟩, ⟨zqB am.out⟩, ⟨zqB ap.out⟩, ⟨zqB aH.out⟩, ⟨by repeat (first | (with_reducible first | exact HB.out | apply below_alloc | apply pw_below_drewN | apply below_drew1 | refine below_set ?_ an.out | refine below_set ?_ ao.out | refine below_set ?_ aR.out | refine below_set ?_ aU.out | refine below_set ?_ aV.out) | exact HB.out)⟩⟩
            case rest =>
             clear bN
             obtain ⟨kq, x49_83, rfl, HA, HJ83, aj, af, ag, am, ap, aH, HB⟩ := hcut
             cases kq with
             | zero => exact absurd HA.out (by simp [edit_meet.j4])
             | succ kj83 =>
              have H := HA.out
              clear HA
              simp only [edit_meet.j4] at H
              by_cases c122 : x49_83 = true
              ·
               subst c122
               have H1 : (some (([] : List (S108)), 15)) = some (r1, r2) := by rw [if_pos rfl] at H; exact H
               clear H; have H := H1; clear H1
               simp only [Option.some.injEq, Prod.mk.injEq] at H
               obtain ⟨rfl, rfl⟩ := H
               go_wp2
               go_ret2
               exact ⟨_, zqR, by first | exact Kd.R_nil _ _ _ _ _ | exact Kd.N_nil _ _ _ _ _ | exact Kd.V_nil _ _ _ _ _ | exact Kd.Q_nil _ _ _ _ _ | exact Kd.S_nil _ _ _ _ _, by repeat (first | (with_reducible first | exact HB.out | apply below_alloc | apply pw_below_drewN | apply below_drew1 | refine below_set ?_ an.out | refine below_set ?_ ao.out | refine below_set ?_ aR.out | refine below_set ?_ aU.out | refine below_set ?_ aV.out) | exact HB.out)⟩
              ·
               replace c122 := Bool.eq_false_iff.mpr c122
               subst c122
               have H1 : (if t237 < 0 then (edit_meet.j5 kj83 x6_1 x24_1 t237 aa (aa.length : Int) x24_1 true aa ah ae ai ac ab ((rd_T61 aa x24_1).f0) ((rd_T61 aa x24_1).f1) ((rd_T61 aa x24_1).f2) x240000_11 x240001_11 x240002_11 x241000_34 x241001_34 x241002_34) else (edit_meet.j5 kj83 x6_1 x24_1 t237 aa (aa.length : Int) x24_1 (decide (t238 < 0)) aa ah ae ai ac ab ((rd_T61 aa x24_1).f0) ((rd_T61 aa x24_1).f1) ((rd_T61 aa x24_1).f2) x240000_11 x240001_11 x240002_11 x241000_34 x241001_34 x241002_34)) = some (r1, r2) := by rw [if_neg (show ¬ (false = true) by decide)] at H; exact H
               clear H; have H := H1; clear H1
               have bO := zA H
               clear H
               go_upto_region 15 with (fail)
               go_cut [79] (fun v79 wc => ∃ (kq : Nat) (x79_122 : Bool), v79 = .bool x79_122 ∧ Aside0 (edit_meet.j5 kq x6_1 x24_1 t237 aa (aa.length : Int) x24_1 x79_122 aa ah ae ai ac ab ((rd_T61 aa x24_1).f0) ((rd_T61 aa x24_1).f1) ((rd_T61 aa x24_1).f2) x240000_11 x240001_11 x240002_11 x241000_34 x241001_34 x241002_34 = some (r1, r2)) ∧ Aside0 (kq ≤ kj83) ∧ Aside0 (Kd.R k108 108 wc w.heap.size (fun _ => True) u6 x6_1) ∧ Aside0 (wc.heap[ak]? = some (.cells #[(.slice (some ad235) aa.length ar), (.slice aw ah.length au), (.slice aE ae.length av)] 28 (0, 0))) ∧ Aside0 (wc.heap[al]? = some (.cells #[(.slice ax ai.length ay), (.slice aD ac.length az), (.slice aM ab.length aA)] 28 (0, 0))) ∧ Aside0 (wc.heap[aC]? = some (.cells #[.int .i64 ((rd_T61 aa x24_1).f0), .int .i64 ((rd_T61 aa x24_1).f1), .int .i64 ((rd_T61 aa x24_1).f2)] 61 (0, 0))) ∧ Aside0 (wc.heap[aJ]? = some (.cells #[.int .i64 x240000_11, .int .i64 x240001_11, .int .i64 x240002_11] 61 (0, 0))) ∧ Aside0 (wc.heap[aT]? = some (.cells #[.int .i64 x241000_34, .int .i64 x241001_34, .int .i64 x241002_34] 61 (0, 0))) ∧ Aside0 (Below w.heap.size w wc))
               case first =>
                have H := bO.out
                clear bO
                by_cases c124 : t237 < 0
                ·
                 rw [if_pos c124] at H
                 have c124b0 : decide (t237 < 0) = true := decide_eq_true c124
                 clear c124
                 (first | rw [c124b0] | (simp only [i64_w, i32_w]; rw [c124b0]) | skip)
                 have H' := zA H
                 clear H
                 go_wp2
                 go_meet
                 case rel => exact ⟨_, (true), zqQ, H', ⟨by have := HK1.out; have := HJ11.out; have := HJ34.out; have := HJ47.out; have := HJ83.out; first | omega | exact Nat.le_refl _⟩, ⟨zqC aj.out⟩, ⟨zqB af.out⟩, ⟨zqB ag.out⟩, ⟨zqB am.out⟩, ⟨zqB ap.out⟩, ⟨zqB aH.out⟩, ⟨by repeat (first | (with_reducible first | exact HB.out | apply below_alloc | apply pw_below_drewN | apply below_drew1 | refine below_set ?_ an.out | refine below_set ?_ ao.out | refine below_set ?_ aR.out | refine below_set ?_ aU.out | refine below_set ?_ aV.out) | exact HB.out)⟩⟩
                ·
                 rw [if_neg c124] at H
                 have c124b0 : decide (t237 < 0) = false := decide_eq_false c124
                 clear c124
                 (first | rw [c124b0] | (simp only [i64_w, i32_w]; rw [c124b0]) | skip)
                 have H' := zA H
                 clear H
                 go_wp2
                 go_meet
                 case rel => exact ⟨_, (decide (t238 < 0)), zqQ, H', ⟨by have := HK1.out; have := HJ11.out; have := HJ34.out; have := HJ47.out; have := HJ83.out; first | omega | exact Nat.le_refl _⟩, ⟨zqC aj.out⟩, ⟨zqB af.out⟩, ⟨zqB ag.out⟩, ⟨zqB am.out⟩, ⟨zqB ap.out⟩, ⟨zqB aH.out⟩, ⟨by repeat (first | (with_reducible first | exact HB.out | apply below_alloc | apply pw_below_drewN | apply below_drew1 | refine below_set ?_ an.out | refine below_set ?_ ao.out | refine below_set ?_ aR.out | refine below_set ?_ aU.out | refine below_set ?_ aV.out) | exact HB.out)⟩⟩
               case rest =>
                clear bO
                obtain ⟨kq, x79_122, rfl, HA, HJ122, aj, af, ag, am, ap, aH, HB⟩ := hcut
                cases kq with
                | zero => exact absurd HA.out (by simp [edit_meet.j5])
                | succ kj122 =>
                 have H := HA.out
                 clear HA
                 simp only [edit_meet.j5] at H
                 by_cases c125 : x79_122 = true
                 ·
                  subst c125
                  have H1 : (edit_meet.l0 kj122 x6_1 aa (aa.length : Int) (wrap64 (x24_1 + 1)) aa ah ae ai ac ab) = some (r1, r2) := by rw [if_pos rfl] at H; exact H
                  clear H; have H := H1; clear H1
                  have H' := zA H
                  clear H
                  go_wp2
                  go_roundg kj122
                  case measure => have := HK1.out; have := HJ11.out; have := HJ34.out; have := HJ47.out; have := HJ83.out; have := HJ122.out; omega
                  case rel => exact ⟨(x6_1), (wrap64 (x24_1 + 1)), zqQ, H', ⟨by have := HK1.out; have := HJ11.out; have := HJ34.out; have := HJ47.out; have := HJ83.out; have := HJ122.out; omega⟩, ⟨zqC aj.out⟩, ⟨zqB af.out⟩, ⟨zqB ag.out⟩, ⟨by repeat (first | (with_reducible first | exact HB.out | apply below_alloc | apply pw_below_drewN | apply below_drew1 | refine below_set ?_ an.out | refine below_set ?_ ao.out | refine below_set ?_ aR.out | refine below_set ?_ aU.out | refine below_set ?_ aV.out) | exact HB.out)⟩⟩
                 ·
                  replace c125 := Bool.eq_false_iff.mpr c125
                  subst c125
                  have H1 : (if (x240000_11 == ((rd_T61 aa x24_1).f0) && (x240001_11 == ((rd_T61 aa x24_1).f1) && (x240002_11 == ((rd_T61 aa x24_1).f2)))) = true then (if x6_1.length < 2513169434916 then (edit_meet.l0 kj122 (x6_1 ++ [(⟨(⟨x241000_34, x241001_34, x241002_34⟩ : S61), (⟨x24_1, false⟩ : S67), (⟨t237, false⟩ : S67)⟩ : S108)]) aa (aa.length : Int) (wrap64 (x24_1 + 1)) aa ah ae ai ac ab) else (none)) else (if x6_1.length < 2513169434916 then (edit_meet.l0 kj122 (x6_1 ++ [(⟨(⟨x240000_11, x240001_11, x240002_11⟩ : S61), (⟨x24_1, false⟩ : S67), (⟨t237, false⟩ : S67)⟩ : S108)]) aa (aa.length : Int) (wrap64 (x24_1 + 1)) aa ah ae ai ac ab) else (none))) = some (r1, r2) := by rw [if_neg (show ¬ (false = true) by decide)] at H; exact H
                  clear H; have H := H1; clear H1
                  by_cases c126 : (x240000_11 == ((rd_T61 aa x24_1).f0) && (x240001_11 == ((rd_T61 aa x24_1).f1) && (x240002_11 == ((rd_T61 aa x24_1).f2)))) = true
                  ·
                   rw [if_pos c126] at H
                   have c126b0 : (x240000_11 == ((rd_T61 aa x24_1).f0) && (x240001_11 == ((rd_T61 aa x24_1).f1) && (x240002_11 == ((rd_T61 aa x24_1).f2)))) = true := c126
                   (try (have c126b1 : decide (x240000_11 = ((rd_T61 aa x24_1).f0) && (x240001_11 == ((rd_T61 aa x24_1).f1) && (x240002_11 == ((rd_T61 aa x24_1).f2)))) = true := by simpa using c126))
                   (try (have c126b2 : (x240000_11 == ((rd_T61 aa x24_1).f0) && (x240001_11 == ((rd_T61 aa x24_1).f1) && (x240002_11 == ((rd_T61 aa x24_1).f2)))) = true := by simpa using c126))
                   clear c126
                   by_cases c127 : x6_1.length < 2513169434916
                   ·
                    rw [if_pos c127] at H
                    have LMc127 := zA c127
                    clear c127
                    obtain ⟨y246, bP⟩ : ∃ y_ : List (S108), y_ = (x6_1 ++ [(⟨(⟨x241000_34, x241001_34, x241002_34⟩ : S61), (⟨x24_1, false⟩ : S67), (⟨t237, false⟩ : S67)⟩ : S108)]) := ⟨_, rfl⟩
                    replace H : (edit_meet.l0 kj122 y246 aa (aa.length : Int) (wrap64 (x24_1 + 1)) aa ah ae ai ac ab) = some (r1, r2) := zqF bP H
                    have Ny246 := zA bP
                    clear bP
                    have H' := zA H
                    clear H
                    have hnb128 := bk.out
                    have hnc128 := a3.out
                    have hnb129 := be.out
                    have hnc129 := aZ.out
                    have hnb130 := bx.out
                    have hnc130 := a8.out
                    have hnb131 := bh.out
                    have hnc131 := a5.out
                    have hcz132_0 : wc.cell? ⟨aJ, 0, none⟩ = some (.int .i64 x240000_11) := (blk_cell ap.out 0).trans rfl
                    have hcz132_1 : wc.cell? ⟨aJ, 1, none⟩ = some (.int .i64 x240001_11) := (blk_cell ap.out 1).trans rfl
                    have hcz132_2 : wc.cell? ⟨aJ, 2, none⟩ = some (.int .i64 x240002_11) := (blk_cell ap.out 2).trans rfl
                    have hfz132_0 := blk_frozen ap.out 0
                    have hfz132_1 := blk_frozen ap.out 1
                    have hfz132_2 := blk_frozen ap.out 2
                    have hnb133 := bi.out
                    have hnc133 := a7.out
                    have hnb134 := bd.out
                    have hnc134 := a4.out
                    have hnb135 := bj.out
                    have hnc135 := bz.out
                    have hcz136_0 : wc.cell? ⟨aC, 0, none⟩ = some (.int .i64 ((rd_T61 aa x24_1).f0)) := (blk_cell am.out 0).trans rfl
                    have hcz136_1 : wc.cell? ⟨aC, 1, none⟩ = some (.int .i64 ((rd_T61 aa x24_1).f1)) := (blk_cell am.out 1).trans rfl
                    have hcz136_2 : wc.cell? ⟨aC, 2, none⟩ = some (.int .i64 ((rd_T61 aa x24_1).f2)) := (blk_cell am.out 2).trans rfl
                    have hfz136_0 := blk_frozen am.out 0
                    have hfz136_1 := blk_frozen am.out 1
                    have hfz136_2 := blk_frozen am.out 2
                    have hnb137 := bq.out
                    have hnc137 := bf.out
                    have hnb138 := br.out
                    have hnc138 := bg.out
                    have hcz139_0 : wc.cell? ⟨aT, 0, none⟩ = some (.int .i64 x241000_34) := (blk_cell aH.out 0).trans rfl
                    have hcz139_1 : wc.cell? ⟨aT, 1, none⟩ = some (.int .i64 x241001_34) := (blk_cell aH.out 1).trans rfl
                    have hcz139_2 : wc.cell? ⟨aT, 2, none⟩ = some (.int .i64 x241002_34) := (blk_cell aH.out 2).trans rfl
                    have hfz139_0 := blk_frozen aH.out 0
                    have hfz139_1 := blk_frozen aH.out 1
                    have hfz139_2 := blk_frozen aH.out 2
                    go_wp2_with (first | ((with_reducible refine gate_builtin (b := .append) (xs := #[.tmp 91, .tmp 98]) rfl ?_); at_builtin; refine Kd.R_append k108 (w0 := w) w.heap.size rfl (.tmp 91) (.tmp 98) 104 108 (.agg #[(.int .i64 0), (.int .i64 0), (.int .i64 0), (.int .i64 0), (.bool false), (.int .i64 0), (.bool false)]) 56 rfl Try.underlying104 info108 rfl (by decide) (by omega) u6 x6_1 (⟨(⟨x241000_34, x241001_34, x241002_34⟩ : S61), (⟨x24_1, false⟩ : S67), (⟨t237, false⟩ : S67)⟩ : S108) [.int .i64 x241000_34, .int .i64 x241001_34, .int .i64 x241002_34, .int .i64 x24_1, .bool false, .int .i64 t237, .bool false] (fun _ => True) (fun _ => False) rfl (by first | (go_simp; done) | (go_simp; rfl)) ?aP (fun _ hk => hk.elim) ?aF ?aO ?aB ?aS ?aL ?_; (case aP => exact k108_mkM _ _ _ (⟨(⟨x241000_34, x241001_34, x241002_34⟩ : S61), (⟨x24_1, false⟩ : S67), (⟨t237, false⟩ : S67)⟩ : S108)); (case aB => exact (by repeat (first | (with_reducible first | exact HB.out | apply below_alloc | apply pw_below_drewN | apply below_drew1 | refine below_set ?_ an.out | refine below_set ?_ ao.out | refine below_set ?_ aR.out | refine below_set ?_ aU.out | refine below_set ?_ aV.out) | exact HB.out))); (case aF => exact (fun _ _ => trivial)); (case aO => exact (by (with_reducible repeat (first | apply Kd.R_alloc | apply Kd.R_drewN | apply Kd.R_drew)); exact Kd.R_mono (Kd.R_far (p := ⟨aJ, 2, none⟩) (Kd.R_far (p := ⟨aJ, 1, none⟩) (Kd.R_far (p := ⟨aJ, 0, none⟩) (Kd.R_types aj.out ap.out (by decide)) (fun _ hk => hk.2) (.int .i64 x241000_34)) (fun _ hk => hk.2) (.int .i64 x241001_34)) (fun _ hk => hk.2) (.int .i64 x241002_34)) (fun _ hk => trivial))); (case aS => exact (below_size (by repeat (first | (with_reducible first | exact HB.out | apply below_alloc | apply pw_below_drewN | apply below_drew1 | refine below_set ?_ an.out | refine below_set ?_ ao.out | refine below_set ?_ aR.out | refine below_set ?_ aU.out | refine below_set ?_ aV.out) | exact HB.out)))); (case aL => have := LMc127.out; omega); intro v247 w140 ho hb hg hat; rw [← Ny246.out] at ho; replace af := zA (blk_grown (g := ak) (o := .cells #[.slice (some ad235) aa.length ar, .slice aw ah.length au, .slice aE ae.length av] 28 (0, 0)) (by (with_reducible repeat (first | refine blk_drewN ?_ _ | refine blk_drew ?_ | refine blk_alloc ?_ _)); refine blk_far ?_ a3.out _; (with_reducible repeat (first | refine blk_drewN ?_ _ | refine blk_drew ?_ | refine blk_alloc ?_ _)); refine blk_far ?_ a3.out _; (with_reducible repeat (first | refine blk_drewN ?_ _ | refine blk_drew ?_ | refine blk_alloc ?_ _)); refine blk_far ?_ a3.out _; (with_reducible repeat (first | refine blk_drewN ?_ _ | refine blk_drew ?_ | refine blk_alloc ?_ _)); exact af.out) hg (Kd.R_ne aj.out af.out (by decide))); replace ag := zA (blk_grown (g := al) (o := .cells #[.slice ax ai.length ay, .slice aD ac.length az, .slice aM ab.length aA] 28 (0, 0)) (by (with_reducible repeat (first | refine blk_drewN ?_ _ | refine blk_drew ?_ | refine blk_alloc ?_ _)); refine blk_far ?_ aZ.out _; (with_reducible repeat (first | refine blk_drewN ?_ _ | refine blk_drew ?_ | refine blk_alloc ?_ _)); refine blk_far ?_ aZ.out _; (with_reducible repeat (first | refine blk_drewN ?_ _ | refine blk_drew ?_ | refine blk_alloc ?_ _)); refine blk_far ?_ aZ.out _; (with_reducible repeat (first | refine blk_drewN ?_ _ | refine blk_drew ?_ | refine blk_alloc ?_ _)); exact ag.out) hg (Kd.R_ne aj.out ag.out (by decide))); replace am := zA (blk_grown (g := aC) (o := .cells #[.int .i64 ((rd_T61 aa x24_1).f0), .int .i64 ((rd_T61 aa x24_1).f1), .int .i64 ((rd_T61 aa x24_1).f2)] 61 (0, 0)) (by (with_reducible repeat (first | refine blk_drewN ?_ _ | refine blk_drew ?_ | refine blk_alloc ?_ _)); refine blk_far ?_ a8.out _; (with_reducible repeat (first | refine blk_drewN ?_ _ | refine blk_drew ?_ | refine blk_alloc ?_ _)); refine blk_far ?_ a8.out _; (with_reducible repeat (first | refine blk_drewN ?_ _ | refine blk_drew ?_ | refine blk_alloc ?_ _)); refine blk_far ?_ a8.out _; (with_reducible repeat (first | refine blk_drewN ?_ _ | refine blk_drew ?_ | refine blk_alloc ?_ _)); exact am.out) hg (Kd.R_ne aj.out am.out (by decide))); replace ap := zA (blk_grown (g := aJ) (o := .cells #[.int .i64 x241000_34, .int .i64 x241001_34, .int .i64 x241002_34] 61 (0, 0)) (by (with_reducible repeat (first | refine blk_drewN ?_ _ | refine blk_drew ?_ | refine blk_alloc ?_ _)); refine blk_put (cs := #[.int .i64 x241000_34, .int .i64 x241001_34, .int .i64 x240002_11]) ?_ 2 _ rfl; (with_reducible repeat (first | refine blk_drewN ?_ _ | refine blk_drew ?_ | refine blk_alloc ?_ _)); refine blk_put (cs := #[.int .i64 x241000_34, .int .i64 x240001_11, .int .i64 x240002_11]) ?_ 1 _ rfl; (with_reducible repeat (first | refine blk_drewN ?_ _ | refine blk_drew ?_ | refine blk_alloc ?_ _)); refine blk_put (cs := #[.int .i64 x240000_11, .int .i64 x240001_11, .int .i64 x240002_11]) ?_ 0 _ rfl; (with_reducible repeat (first | refine blk_drewN ?_ _ | refine blk_drew ?_ | refine blk_alloc ?_ _)); exact ap.out) hg (Kd.R_ne aj.out ap.out (by decide))); replace aH := zA (blk_grown (g := aT) (o := .cells #[.int .i64 x241000_34, .int .i64 x241001_34, .int .i64 x241002_34] 61 (0, 0)) (by (with_reducible repeat (first | refine blk_drewN ?_ _ | refine blk_drew ?_ | refine blk_alloc ?_ _)); refine blk_far ?_ a5.out _; (with_reducible repeat (first | refine blk_drewN ?_ _ | refine blk_drew ?_ | refine blk_alloc ?_ _)); refine blk_far ?_ a5.out _; (with_reducible repeat (first | refine blk_drewN ?_ _ | refine blk_drew ?_ | refine blk_alloc ?_ _)); refine blk_far ?_ a5.out _; (with_reducible repeat (first | refine blk_drewN ?_ _ | refine blk_drew ?_ | refine blk_alloc ?_ _)); exact aH.out) hg (Kd.R_ne aj.out aH.out (by decide))); replace HB := zA (hb); have HO248 := zA (ho); clear aj; clear ho hb hg hat))
                    go_roundg kj122
                    case measure => have := HK1.out; have := HJ11.out; have := HJ34.out; have := HJ47.out; have := HJ83.out; have := HJ122.out; omega
                    case rel => exact ⟨(y246), (wrap64 (x24_1 + 1)), zqQ, H', ⟨by have := HK1.out; have := HJ11.out; have := HJ34.out; have := HJ47.out; have := HJ83.out; have := HJ122.out; omega⟩, ⟨zqC HO248.out⟩, ⟨zqB af.out⟩, ⟨zqB ag.out⟩, ⟨by repeat (first | (with_reducible first | exact HB.out | apply below_alloc | apply pw_below_drewN | apply below_drew1 | refine below_set ?_ an.out | refine below_set ?_ ao.out | refine below_set ?_ aR.out | refine below_set ?_ aU.out | refine below_set ?_ aV.out) | exact HB.out)⟩⟩
                   ·
                    rw [if_neg c127] at H
                    exact absurd H (by simp)
                  ·
                   rw [if_neg c126] at H
                   have c126b0 : (x240000_11 == ((rd_T61 aa x24_1).f0) && (x240001_11 == ((rd_T61 aa x24_1).f1) && (x240002_11 == ((rd_T61 aa x24_1).f2)))) = false := by simpa using c126
                   (try (have c126b1 : decide (x240000_11 = ((rd_T61 aa x24_1).f0) && (x240001_11 == ((rd_T61 aa x24_1).f1) && (x240002_11 == ((rd_T61 aa x24_1).f2)))) = false := by simpa using c126))
                   (try (have c126b2 : (x240000_11 == ((rd_T61 aa x24_1).f0) && (x240001_11 == ((rd_T61 aa x24_1).f1) && (x240002_11 == ((rd_T61 aa x24_1).f2)))) = false := by simpa using c126))
                   (try (have c126b3 : ¬ (x240000_11 = ((rd_T61 aa x24_1).f0) && (x240001_11 == ((rd_T61 aa x24_1).f1) && (x240002_11 == ((rd_T61 aa x24_1).f2)))) := by simpa using c126))
                   clear c126
                   by_cases c141 : x6_1.length < 2513169434916
                   ·
                    rw [if_pos c141] at H
                    have LMc141 := zA c141
                    clear c141
                    obtain ⟨y249, bQ⟩ : ∃ y_ : List (S108), y_ = (x6_1 ++ [(⟨(⟨x240000_11, x240001_11, x240002_11⟩ : S61), (⟨x24_1, false⟩ : S67), (⟨t237, false⟩ : S67)⟩ : S108)]) := ⟨_, rfl⟩
                    replace H : (edit_meet.l0 kj122 y249 aa (aa.length : Int) (wrap64 (x24_1 + 1)) aa ah ae ai ac ab) = some (r1, r2) := zqF bQ H
                    have Ny249 := zA bQ
                    clear bQ
                    have H' := zA H
                    clear H
                    have hnb142 := bk.out
                    have hnc142 := a3.out
                    have hnb143 := be.out
                    have hnc143 := aZ.out
                    have hnb144 := bx.out
                    have hnc144 := a8.out
                    have hnb145 := bh.out
                    have hnc145 := a5.out
                    have hcz146_0 : wc.cell? ⟨aJ, 0, none⟩ = some (.int .i64 x240000_11) := (blk_cell ap.out 0).trans rfl
                    have hcz146_1 : wc.cell? ⟨aJ, 1, none⟩ = some (.int .i64 x240001_11) := (blk_cell ap.out 1).trans rfl
                    have hcz146_2 : wc.cell? ⟨aJ, 2, none⟩ = some (.int .i64 x240002_11) := (blk_cell ap.out 2).trans rfl
                    have hfz146_0 := blk_frozen ap.out 0
                    have hfz146_1 := blk_frozen ap.out 1
                    have hfz146_2 := blk_frozen ap.out 2
                    have hnb147 := bi.out
                    have hnc147 := a7.out
                    have hnb148 := bd.out
                    have hnc148 := a4.out
                    have hnb149 := bj.out
                    have hnc149 := bz.out
                    have hcz150_0 : wc.cell? ⟨aC, 0, none⟩ = some (.int .i64 ((rd_T61 aa x24_1).f0)) := (blk_cell am.out 0).trans rfl
                    have hcz150_1 : wc.cell? ⟨aC, 1, none⟩ = some (.int .i64 ((rd_T61 aa x24_1).f1)) := (blk_cell am.out 1).trans rfl
                    have hcz150_2 : wc.cell? ⟨aC, 2, none⟩ = some (.int .i64 ((rd_T61 aa x24_1).f2)) := (blk_cell am.out 2).trans rfl
                    have hfz150_0 := blk_frozen am.out 0
                    have hfz150_1 := blk_frozen am.out 1
                    have hfz150_2 := blk_frozen am.out 2
                    go_wp2_with (first | ((with_reducible refine gate_builtin (b := .append) (xs := #[.tmp 91, .tmp 98]) rfl ?_); at_builtin; refine Kd.R_append k108 (w0 := w) w.heap.size rfl (.tmp 91) (.tmp 98) 104 108 (.agg #[(.int .i64 0), (.int .i64 0), (.int .i64 0), (.int .i64 0), (.bool false), (.int .i64 0), (.bool false)]) 56 rfl Try.underlying104 info108 rfl (by decide) (by omega) u6 x6_1 (⟨(⟨x240000_11, x240001_11, x240002_11⟩ : S61), (⟨x24_1, false⟩ : S67), (⟨t237, false⟩ : S67)⟩ : S108) [.int .i64 x240000_11, .int .i64 x240001_11, .int .i64 x240002_11, .int .i64 x24_1, .bool false, .int .i64 t237, .bool false] (fun _ => True) (fun _ => False) rfl rfl ?aP (fun _ hk => hk.elim) ?aF ?aO ?aB ?aS ?aL ?_; (case aP => exact k108_mkM _ _ _ (⟨(⟨x240000_11, x240001_11, x240002_11⟩ : S61), (⟨x24_1, false⟩ : S67), (⟨t237, false⟩ : S67)⟩ : S108)); (case aB => exact (by repeat (first | (with_reducible first | exact HB.out | apply below_alloc | apply pw_below_drewN | apply below_drew1 | refine below_set ?_ an.out | refine below_set ?_ ao.out | refine below_set ?_ aR.out | refine below_set ?_ aU.out | refine below_set ?_ aV.out) | exact HB.out))); (case aF => exact (fun _ _ => trivial)); (case aO => exact (zqC aj.out)); (case aS => exact (below_size (by repeat (first | (with_reducible first | exact HB.out | apply below_alloc | apply pw_below_drewN | apply below_drew1 | refine below_set ?_ an.out | refine below_set ?_ ao.out | refine below_set ?_ aR.out | refine below_set ?_ aU.out | refine below_set ?_ aV.out) | exact HB.out)))); (case aL => have := LMc141.out; omega); intro v250 w151 ho hb hg hat; rw [← Ny249.out] at ho; replace af := zA (blk_grown (g := ak) (o := .cells #[.slice (some ad235) aa.length ar, .slice aw ah.length au, .slice aE ae.length av] 28 (0, 0)) (zqB af.out) hg (Kd.R_ne aj.out af.out (by decide))); replace ag := zA (blk_grown (g := al) (o := .cells #[.slice ax ai.length ay, .slice aD ac.length az, .slice aM ab.length aA] 28 (0, 0)) (zqB ag.out) hg (Kd.R_ne aj.out ag.out (by decide))); replace am := zA (blk_grown (g := aC) (o := .cells #[.int .i64 ((rd_T61 aa x24_1).f0), .int .i64 ((rd_T61 aa x24_1).f1), .int .i64 ((rd_T61 aa x24_1).f2)] 61 (0, 0)) (zqB am.out) hg (Kd.R_ne aj.out am.out (by decide))); replace ap := zA (blk_grown (g := aJ) (o := .cells #[.int .i64 x240000_11, .int .i64 x240001_11, .int .i64 x240002_11] 61 (0, 0)) (zqB ap.out) hg (Kd.R_ne aj.out ap.out (by decide))); replace aH := zA (blk_grown (g := aT) (o := .cells #[.int .i64 x241000_34, .int .i64 x241001_34, .int .i64 x241002_34] 61 (0, 0)) (zqB aH.out) hg (Kd.R_ne aj.out aH.out (by decide))); replace HB := zA (hb); have HO251 := zA (ho); clear aj; clear ho hb hg hat))
                    go_roundg kj122
                    case measure => have := HK1.out; have := HJ11.out; have := HJ34.out; have := HJ47.out; have := HJ83.out; have := HJ122.out; omega
                    case rel => exact ⟨(y249), (wrap64 (x24_1 + 1)), zqQ, H', ⟨by have := HK1.out; have := HJ11.out; have := HJ34.out; have := HJ47.out; have := HJ83.out; have := HJ122.out; omega⟩, ⟨zqC HO251.out⟩, ⟨zqB af.out⟩, ⟨zqB ag.out⟩, ⟨by repeat (first | (with_reducible first | exact HB.out | apply below_alloc | apply pw_below_drewN | apply below_drew1 | refine below_set ?_ an.out | refine below_set ?_ ao.out | refine below_set ?_ aR.out | refine below_set ?_ aU.out | refine below_set ?_ aV.out) | exact HB.out)⟩⟩
                   ·
                    rw [if_neg c141] at H
                    exact absurd H (by simp)
     ·
      rw [if_neg c9] at H
      exact absurd H (by simp)
    ·
     rw [if_neg c8] at H
     exact absurd H (by simp)
   ·
    rw [if_neg c7] at H
    have c7b0 : decide (x24_1 < (aa.length : Int)) = false := decide_eq_false c7
    clear c7
    have H' := zA H
    clear H
    have hnb152 := bb.out
    have hnc152 := bc.out
    have hcz153_0 : wr.cell? ⟨ak, 0, none⟩ = some (.slice aK aa.length ar) := (blk_cell af.out 0).trans rfl
    have hcz153_1 : wr.cell? ⟨ak, 1, none⟩ = some (.slice aw ah.length au) := (blk_cell af.out 1).trans rfl
    have hcz153_2 : wr.cell? ⟨ak, 2, none⟩ = some (.slice aE ae.length av) := (blk_cell af.out 2).trans rfl
    have hfz153_0 := blk_frozen af.out 0
    have hfz153_1 := blk_frozen af.out 1
    have hfz153_2 := blk_frozen af.out 2
    go_wp2
    go_loopg [6, 104] k1 (fun kq v6 v104 w' => ∃ (x6_2 : List (S108)) (x104_2 : Int), v104 = .int .i64 x104_2 ∧ Aside0 (edit_meet.l1 kq x6_2 ae (ae.length : Int) x104_2 aa ah ae ai ac ab = some (r1, r2)) ∧ Aside0 (kq ≤ k1) ∧ Aside0 (Kd.R k108 108 w' w.heap.size (fun _ => True) v6 x6_2) ∧ Aside0 (w'.heap[ak]? = some (.cells #[(.slice aK aa.length ar), (.slice aw ah.length au), (.slice aE ae.length av)] 28 (0, 0))) ∧ Aside0 (w'.heap[al]? = some (.cells #[(.slice ax ai.length ay), (.slice aD ac.length az), (.slice aM ab.length aA)] 28 (0, 0))) ∧ Aside0 (Below w.heap.size w w'))
    case atStart => exact ⟨(x6_1), (0), zqQ, H', ⟨Nat.le_refl _⟩, ⟨zqC aj.out⟩, ⟨zqB af.out⟩, ⟨zqB ag.out⟩, ⟨zqH HB.out an.out ao.out⟩⟩
    case round =>
     clear H'
     obtain ⟨x6_2, x104_2, rfl, HA, HK2, aj, af, ag, HB⟩ := hrel
     cases gk with
     | zero => exact absurd HA.out (by simp [edit_meet.l1])
     | succ k2 =>
      have H := HA.out
      clear HA
      simp only [edit_meet.l1] at H
      by_cases c154 : x104_2 < (ae.length : Int)
      ·
       rw [if_pos c154] at H
       have c154b0 : decide (x104_2 < (ae.length : Int)) = true := decide_eq_true c154
       clear c154
       by_cases c155 : 0 ≤ x104_2
       ·
        rw [if_pos c155] at H
        have c155b0 : decide (0 ≤ x104_2) = true := decide_eq_true c155
        clear c155
        by_cases c156 : x104_2 < (ae.length : Int)
        ·
         rw [if_pos c156] at H
         have c156b0 : decide (x104_2 < (ae.length : Int)) = true := decide_eq_true c156
         clear c156
         replace H := Option.bind_eq_some_iff.mp H
         obtain ⟨t254, A1570, H⟩ := H
         replace H : (if t254 = true then (edit_meet.l1 k2 x6_2 ae (ae.length : Int) (wrap64 (x104_2 + 1)) aa ah ae ai ac ab) else (if x104_2 < (ah.length : Int) then (if x6_2.length < 2513169434916 then (edit_meet.l1 k2 (x6_2 ++ [(⟨(⟨(rd_T61 ah x104_2).f0, (rd_T61 ah x104_2).f1, (rd_T61 ah x104_2).f2⟩ : S61), (⟨(rd_T67 ae x104_2).f0, (rd_T67 ae x104_2).f1⟩ : S67), (⟨x104_2, false⟩ : S67)⟩ : S108)]) ae (ae.length : Int) (wrap64 (x104_2 + 1)) aa ah ae ai ac ab) else (none)) else (none))) = some (r1, r2) := H
         have A157 := zA A1570
         clear A1570
         by_cases c158 : t254 = true
         ·
          subst c158
          have H1 : (edit_meet.l1 k2 x6_2 ae (ae.length : Int) (wrap64 (x104_2 + 1)) aa ah ae ai ac ab) = some (r1, r2) := by rw [if_pos rfl] at H; exact H
          clear H; have H := H1; clear H1
          have H' := zA H
          clear H
          have p252 : 0 ≤ (x104_2 : Int) := of_decide_eq_true (zqD)
          have q252 : x104_2 < (ae.length : Int) := of_decide_eq_true (zqD)
          obtain ⟨ad252, e252, hx252_0, hx252_1⟩ := at_T67 bw.out x104_2 p252 q252
          cases e252
          replace hx252_0 := (HB.out.cell (World.block_lt_of_cell? w _ hx252_0)).trans hx252_0
          replace hx252_1 := (HB.out.cell (World.block_lt_of_cell? w _ hx252_1)).trans hx252_1
          replace p252 := eq_true p252; replace q252 := eq_true q252
          go_wp2_with (first | ((with_reducible refine gate_dst (N := 14) rfl ?_); refine box_event ?hg (N := 14) ?hd (cs := #[.int .i64 0, .bool false]) (t := 67) ?hr ?_; (case hd => rfl); (case hg => rfl); (case hr => first | (go_simp; done) | (go_simp; rfl)); intro aX hg w159 hbox hb; replace aj := zA (Kd.R_below (zqC aj.out) hb); have aW := zA (hbox); have GW253 := zA ((by rw [hg]; exact (below_size (zqH HB.out an.out ao.out)) : w.heap.size ≤ aX)); have bs := zA ((by rw [hg]; exact (below_size (zqH HB.out an.out ao.out)) : w.heap.size ≤ aX)); replace HB := zA (below_step (zqH HB.out an.out ao.out) hb); have bt := zA ((by rw [hg]; exact Nat.ne_of_lt (blk_lt (g := ak) (o := .cells #[.slice aK aa.length ar, .slice aw ah.length au, .slice (some ad252) ae.length av] 28 (0, 0)) (zqB af.out)) : ak ≠ aX)); have bR := zA ((by rw [hg]; exact Nat.ne_of_gt (blk_lt (g := ak) (o := .cells #[.slice aK aa.length ar, .slice aw ah.length au, .slice (some ad252) ae.length av] 28 (0, 0)) (zqB af.out)) : aX ≠ ak)); replace af := zA (blk_below (g := ak) (o := .cells #[.slice aK aa.length ar, .slice aw ah.length au, .slice (some ad252) ae.length av] 28 (0, 0)) (zqB af.out) hb); have bu := zA ((by rw [hg]; exact Nat.ne_of_lt (blk_lt (g := al) (o := .cells #[.slice ax ai.length ay, .slice aD ac.length az, .slice aM ab.length aA] 28 (0, 0)) (zqB ag.out)) : al ≠ aX)); have bS := zA ((by rw [hg]; exact Nat.ne_of_gt (blk_lt (g := al) (o := .cells #[.slice ax ai.length ay, .slice aD ac.length az, .slice aM ab.length aA] 28 (0, 0)) (zqB ag.out)) : aX ≠ al)); replace ag := zA (blk_below (g := al) (o := .cells #[.slice ax ai.length ay, .slice aD ac.length az, .slice aM ab.length aA] 28 (0, 0)) (zqB ag.out) hb); clear hb hbox hg; have hnb160 := bR.out; have hnc160 := bt.out; have hnb161 := bS.out; have hnc161 := bu.out; have hcz162_0 : w159.cell? ⟨aX, 0, none⟩ = some (.int .i64 0) := (blk_cell aW.out 0).trans rfl; have hcz162_1 : w159.cell? ⟨aX, 1, none⟩ = some (.bool false) := (blk_cell aW.out 1).trans rfl; have hfz162_0 := blk_frozen aW.out 0; have hfz162_1 := blk_frozen aW.out 1) | ((with_reducible refine gate_callee (f := 71) rfl ?_); refine goesL_ (some 110) rfl rfl Try.func71 (by kernel_rfl) rfl #[.agg #[.int .i64 ((rd_T67 ae x104_2).f0), .bool ((rd_T67 ae x104_2).f1)]] rfl zqE ?_; (with_reducible refine (edit_Origin_self.calls ((rd_T67 ae x104_2).f0) ((rd_T67 ae x104_2).f1) true _ A157.out).mono ?_); rintro e w163 ⟨rfl, hb⟩; refine ⟨_, rfl, ?_⟩; replace aj := zA (Kd.R_below (by (with_reducible repeat (first | apply Kd.R_alloc | apply Kd.R_drewN | apply Kd.R_drew)); exact (Kd.R_mono (Kd.R_far (p := ⟨aX, 1, none⟩) (Kd.R_far (p := ⟨aX, 0, none⟩) (Kd.R_types aj.out aW.out (by decide)) (fun _ hk => hk.2) (.int .i64 ((rd_T67 ae x104_2).f0))) (fun _ hk => hk.2) (.bool ((rd_T67 ae x104_2).f1))) (fun _ h_ => h_.1))) hb); replace af := zA (blk_below (g := ak) (o := .cells #[.slice aK aa.length ar, .slice aw ah.length au, .slice (some ad252) ae.length av] 28 (0, 0)) (by (with_reducible repeat (first | refine blk_drewN ?_ _ | refine blk_drew ?_ | refine blk_alloc ?_ _)); refine blk_far ?_ bt.out _; (with_reducible repeat (first | refine blk_drewN ?_ _ | refine blk_drew ?_ | refine blk_alloc ?_ _)); refine blk_far ?_ bt.out _; (with_reducible repeat (first | refine blk_drewN ?_ _ | refine blk_drew ?_ | refine blk_alloc ?_ _)); exact af.out) hb); replace ag := zA (blk_below (g := al) (o := .cells #[.slice ax ai.length ay, .slice aD ac.length az, .slice aM ab.length aA] 28 (0, 0)) (by (with_reducible repeat (first | refine blk_drewN ?_ _ | refine blk_drew ?_ | refine blk_alloc ?_ _)); refine blk_far ?_ bu.out _; (with_reducible repeat (first | refine blk_drewN ?_ _ | refine blk_drew ?_ | refine blk_alloc ?_ _)); refine blk_far ?_ bu.out _; (with_reducible repeat (first | refine blk_drewN ?_ _ | refine blk_drew ?_ | refine blk_alloc ?_ _)); exact ag.out) hb); replace aW := zA (blk_below (g := aX) (o := .cells #[.int .i64 ((rd_T67 ae x104_2).f0), .bool ((rd_T67 ae x104_2).f1)] 67 (0, 0)) (by (with_reducible repeat (first | refine blk_drewN ?_ _ | refine blk_drew ?_ | refine blk_alloc ?_ _)); refine blk_put (cs := #[.int .i64 ((rd_T67 ae x104_2).f0), .bool false]) ?_ 1 _ rfl; (with_reducible repeat (first | refine blk_drewN ?_ _ | refine blk_drew ?_ | refine blk_alloc ?_ _)); refine blk_put (cs := #[.int .i64 0, .bool false]) ?_ 0 _ rfl; (with_reducible repeat (first | refine blk_drewN ?_ _ | refine blk_drew ?_ | refine blk_alloc ?_ _)); exact aW.out) hb); replace HB := zA (below_step (zqI HB.out an.out ao.out bs.out) hb); (try clear hb); (try clear hb2); (try clear hk); (try clear hi)))
          go_roundg k2
          case measure => have := HK1.out; have := HK2.out; omega
          case rel => exact ⟨(x6_2), (wrap64 (x104_2 + 1)), zqQ, H', ⟨by have := HK1.out; have := HK2.out; omega⟩, ⟨zqC aj.out⟩, ⟨zqB af.out⟩, ⟨zqB ag.out⟩, ⟨zqI HB.out an.out ao.out bs.out⟩⟩
         ·
          replace c158 := Bool.eq_false_iff.mpr c158
          subst c158
          have H1 : (if x104_2 < (ah.length : Int) then (if x6_2.length < 2513169434916 then (edit_meet.l1 k2 (x6_2 ++ [(⟨(⟨(rd_T61 ah x104_2).f0, (rd_T61 ah x104_2).f1, (rd_T61 ah x104_2).f2⟩ : S61), (⟨(rd_T67 ae x104_2).f0, (rd_T67 ae x104_2).f1⟩ : S67), (⟨x104_2, false⟩ : S67)⟩ : S108)]) ae (ae.length : Int) (wrap64 (x104_2 + 1)) aa ah ae ai ac ab) else (none)) else (none)) = some (r1, r2) := by rw [if_neg (show ¬ (false = true) by decide)] at H; exact H
          clear H; have H := H1; clear H1
          by_cases c164 : x104_2 < (ah.length : Int)
          ·
           rw [if_pos c164] at H
           have c164b0 : decide (x104_2 < (ah.length : Int)) = true := decide_eq_true c164
           clear c164
           by_cases c165 : x6_2.length < 2513169434916
           ·
            rw [if_pos c165] at H
            have LMc165 := zA c165
            clear c165
            obtain ⟨y256, bT⟩ : ∃ y_ : List (S108), y_ = (x6_2 ++ [(⟨(⟨(rd_T61 ah x104_2).f0, (rd_T61 ah x104_2).f1, (rd_T61 ah x104_2).f2⟩ : S61), (⟨(rd_T67 ae x104_2).f0, (rd_T67 ae x104_2).f1⟩ : S67), (⟨x104_2, false⟩ : S67)⟩ : S108)]) := ⟨_, rfl⟩
            replace H : (edit_meet.l1 k2 y256 ae (ae.length : Int) (wrap64 (x104_2 + 1)) aa ah ae ai ac ab) = some (r1, r2) := zqF bT H
            have Ny256 := zA bT
            clear bT
            have H' := zA H
            clear H
            have p252 : 0 ≤ (x104_2 : Int) := of_decide_eq_true (zqD)
            have q252 : x104_2 < (ae.length : Int) := of_decide_eq_true (zqD)
            obtain ⟨ad252, e252, hx252_0, hx252_1⟩ := at_T67 bw.out x104_2 p252 q252
            cases e252
            replace hx252_0 := (HB.out.cell (World.block_lt_of_cell? w _ hx252_0)).trans hx252_0
            replace hx252_1 := (HB.out.cell (World.block_lt_of_cell? w _ hx252_1)).trans hx252_1
            replace p252 := eq_true p252; replace q252 := eq_true q252
            try go_wp2_with (first | ((with_reducible refine gate_dst (N := 14) rfl ?_); refine box_event ?hg (N := 14) ?hd (cs := #[.int .i64 0, .bool false]) (t := 67) ?hr ?_; (case hd => rfl); (case hg => rfl); (case hr => first | (go_simp; done) | (go_simp; rfl)); intro aX hg w166 hbox hb; replace aj := zA (Kd.R_below (zqC aj.out) hb); have aW := zA (hbox); have GW253 := zA ((by rw [hg]; exact (below_size (zqH HB.out an.out ao.out)) : w.heap.size ≤ aX)); have bs := zA ((by rw [hg]; exact (below_size (zqH HB.out an.out ao.out)) : w.heap.size ≤ aX)); replace HB := zA (below_step (zqH HB.out an.out ao.out) hb); have bt := zA ((by rw [hg]; exact Nat.ne_of_lt (blk_lt (g := ak) (o := .cells #[.slice aK aa.length ar, .slice aw ah.length au, .slice (some ad252) ae.length av] 28 (0, 0)) (zqB af.out)) : ak ≠ aX)); have bR := zA ((by rw [hg]; exact Nat.ne_of_gt (blk_lt (g := ak) (o := .cells #[.slice aK aa.length ar, .slice aw ah.length au, .slice (some ad252) ae.length av] 28 (0, 0)) (zqB af.out)) : aX ≠ ak)); replace af := zA (blk_below (g := ak) (o := .cells #[.slice aK aa.length ar, .slice aw ah.length au, .slice (some ad252) ae.length av] 28 (0, 0)) (zqB af.out) hb); have bu := zA ((by rw [hg]; exact Nat.ne_of_lt (blk_lt (g := al) (o := .cells #[.slice ax ai.length ay, .slice aD ac.length az, .slice aM ab.length aA] 28 (0, 0)) (zqB ag.out)) : al ≠ aX)); have bS := zA ((by rw [hg]; exact Nat.ne_of_gt (blk_lt (g := al) (o := .cells #[.slice ax ai.length ay, .slice aD ac.length az, .slice aM ab.length aA] 28 (0, 0)) (zqB ag.out)) : aX ≠ al)); replace ag := zA (blk_below (g := al) (o := .cells #[.slice ax ai.length ay, .slice aD ac.length az, .slice aM ab.length aA] 28 (0, 0)) (zqB ag.out) hb); clear hb hbox hg; have hnb167 := bR.out; have hnc167 := bt.out; have hnb168 := bS.out; have hnc168 := bu.out; have hcz169_0 : w166.cell? ⟨aX, 0, none⟩ = some (.int .i64 0) := (blk_cell aW.out 0).trans rfl; have hcz169_1 : w166.cell? ⟨aX, 1, none⟩ = some (.bool false) := (blk_cell aW.out 1).trans rfl; have hfz169_0 := blk_frozen aW.out 0; have hfz169_1 := blk_frozen aW.out 1) | ((with_reducible refine gate_callee (f := 71) rfl ?_); refine goesL_ (some 110) rfl rfl Try.func71 (by kernel_rfl) rfl #[.agg #[.int .i64 ((rd_T67 ae x104_2).f0), .bool ((rd_T67 ae x104_2).f1)]] rfl zqE ?_; (with_reducible refine (edit_Origin_self.calls ((rd_T67 ae x104_2).f0) ((rd_T67 ae x104_2).f1) false _ A157.out).mono ?_); rintro e w170 ⟨rfl, hb⟩; refine ⟨_, rfl, ?_⟩; replace aj := zA (Kd.R_below (by (with_reducible repeat (first | apply Kd.R_alloc | apply Kd.R_drewN | apply Kd.R_drew)); exact (Kd.R_mono (Kd.R_far (p := ⟨aX, 1, none⟩) (Kd.R_far (p := ⟨aX, 0, none⟩) (Kd.R_types aj.out aW.out (by decide)) (fun _ hk => hk.2) (.int .i64 ((rd_T67 ae x104_2).f0))) (fun _ hk => hk.2) (.bool ((rd_T67 ae x104_2).f1))) (fun _ h_ => h_.1))) hb); replace af := zA (blk_below (g := ak) (o := .cells #[.slice aK aa.length ar, .slice aw ah.length au, .slice (some ad252) ae.length av] 28 (0, 0)) (by (with_reducible repeat (first | refine blk_drewN ?_ _ | refine blk_drew ?_ | refine blk_alloc ?_ _)); refine blk_far ?_ bt.out _; (with_reducible repeat (first | refine blk_drewN ?_ _ | refine blk_drew ?_ | refine blk_alloc ?_ _)); refine blk_far ?_ bt.out _; (with_reducible repeat (first | refine blk_drewN ?_ _ | refine blk_drew ?_ | refine blk_alloc ?_ _)); exact af.out) hb); replace ag := zA (blk_below (g := al) (o := .cells #[.slice ax ai.length ay, .slice aD ac.length az, .slice aM ab.length aA] 28 (0, 0)) (by (with_reducible repeat (first | refine blk_drewN ?_ _ | refine blk_drew ?_ | refine blk_alloc ?_ _)); refine blk_far ?_ bu.out _; (with_reducible repeat (first | refine blk_drewN ?_ _ | refine blk_drew ?_ | refine blk_alloc ?_ _)); refine blk_far ?_ bu.out _; (with_reducible repeat (first | refine blk_drewN ?_ _ | refine blk_drew ?_ | refine blk_alloc ?_ _)); exact ag.out) hb); replace aW := zA (blk_below (g := aX) (o := .cells #[.int .i64 ((rd_T67 ae x104_2).f0), .bool ((rd_T67 ae x104_2).f1)] 67 (0, 0)) (by (with_reducible repeat (first | refine blk_drewN ?_ _ | refine blk_drew ?_ | refine blk_alloc ?_ _)); refine blk_put (cs := #[.int .i64 ((rd_T67 ae x104_2).f0), .bool false]) ?_ 1 _ rfl; (with_reducible repeat (first | refine blk_drewN ?_ _ | refine blk_drew ?_ | refine blk_alloc ?_ _)); refine blk_put (cs := #[.int .i64 0, .bool false]) ?_ 0 _ rfl; (with_reducible repeat (first | refine blk_drewN ?_ _ | refine blk_drew ?_ | refine blk_alloc ?_ _)); exact aW.out) hb); replace HB := zA (below_step (zqI HB.out an.out ao.out bs.out) hb); (try clear hb); (try clear hb2); (try clear hk); (try clear hi)))
            replace aj := zA (Kd.R_drew aj.out)
            replace af := zA (blk_drew af.out)
            replace ag := zA (blk_drew ag.out)
            replace aW := zA (blk_drew aW.out)
            replace HB := zA (below_drew1 HB.out)
            have p255 : 0 ≤ (x104_2 : Int) := of_decide_eq_true (zqD)
            have q255 : x104_2 < (ah.length : Int) := of_decide_eq_true (zqD)
            obtain ⟨ad255, e255, hx255_0, hx255_1, hx255_2⟩ := at_T61 bv.out x104_2 p255 q255
            have hw255_2 := hx255_2; have hw255_1 := hx255_1; have hw255_0 := hx255_0; cases e255
            replace hx255_0 := (HB.out.cell (World.block_lt_of_cell? w _ hx255_0)).trans hx255_0
            replace hx255_1 := (HB.out.cell (World.block_lt_of_cell? w _ hx255_1)).trans hx255_1
            replace hx255_2 := (HB.out.cell (World.block_lt_of_cell? w _ hx255_2)).trans hx255_2
            replace p255 := eq_true p255; replace q255 := eq_true q255
            refine start_ (n := 13) (S := fun w' => w'.cell? ⟨ak, 0, none⟩ = some (.slice aK aa.length ar) ∧ w'.cell? ⟨ak, 1, none⟩ = some (.slice (some ad255) ah.length au) ∧ w'.cell? ⟨ak, 2, none⟩ = some (.slice (some ad252) ae.length av) ∧ w'.cell? ⟨aX, 0, none⟩ = some (.int .i64 ((rd_T67 ae x104_2).f0)) ∧ w'.cell? ⟨aX, 1, none⟩ = some (.bool ((rd_T67 ae x104_2).f1)) ∧ w'.cell? (ad255.add ((x104_2).toNat * 3)) = some (.int .i64 ((rd_T61 ah x104_2).f0)) ∧ w'.cell? ⟨(ad255.add ((x104_2).toNat * 3)).block, (ad255.add ((x104_2).toNat * 3)).off + 1, none⟩ = some (.int .i64 ((rd_T61 ah x104_2).f1)) ∧ w'.cell? ⟨(ad255.add ((x104_2).toNat * 3)).block, (ad255.add ((x104_2).toNat * 3)).off + 2, none⟩ = some (.int .i64 ((rd_T61 ah x104_2).f2))) (ds := []) #[false, false, false, false, false, false, false, false, false, false, false, false, false] (by kernel_rfl) rfl rfl ⟨(blk_cell af.out 0).trans rfl, (blk_cell af.out 1).trans rfl, (blk_cell af.out 2).trans rfl, (blk_cell aW.out 0).trans rfl, (blk_cell aW.out 1).trans rfl, ((HB.out.cell (World.block_lt_of_cell? w _ hw255_0)).trans hw255_0), ((HB.out.cell (World.block_lt_of_cell? w _ hw255_1)).trans hw255_1), ((HB.out.cell (World.block_lt_of_cell? w _ hw255_2)).trans hw255_2)⟩ (fun hHeld => ?_); refine with_tabW edit_meet.tab24 edit_meet.bits24 (fun HT_ HW_ => ?_)
            generalize w170.drew = w171 at aj af ag aW HB hx255_0 hx255_1 hx255_2 hHeld ⊢
            refine pureQ 0 (some 112) HT_ ?_
            refine pureQ 1 (some 113) HT_ ?_
            refine pureQ 3 (some 115) HT_ ?_
            refine pureQ 7 (some 119) HT_ ?_
            refine pureQ 8 (some 120) HT_ ?_
            refine takeQ (v := ?_) (a' := ?_) 2 (some 114) HT_ HW_ hHeld ?_ ?_ ?_
            rotate_left
            ·
             rintro w' ⟨s0, s1, s2, s3, s4, s5, s6, s7⟩
             go_simp
             with_reducible rfl
            rotate_left
            ·
             exact putQ
            refine pureQ 4 (some 116) HT_ ?_
            refine takeQ (v := ?_) (a' := ?_) 5 (some 117) HT_ HW_ hHeld ?_ ?_ ?_
            rotate_left
            ·
             rintro w' ⟨s0, s1, s2, s3, s4, s5, s6, s7⟩
             go_simp
             with_reducible rfl
            rotate_left
            ·
             exact putQ
            refine takeQ (v := ?_) (a' := ?_) 6 (some 118) HT_ HW_ hHeld ?_ ?_ ?_
            rotate_left
            ·
             rintro w' ⟨s0, s1, s2, s3, s4, s5, s6, s7⟩
             go_simp
             with_reducible rfl
            rotate_left
            ·
             exact putQ
            refine pureQ 9 (some 121) HT_ ?_
            refine one_ (i := 10) (N := some 122) #[true, true, true, true, true, true, true, true, true, true, true, false, false] rfl rfl (one_of HT_.out (by kernel_rfl)) (by decide) (fun K hK => ?_)
            refine value_ (w1 := ?_) (v := ?_) (by rfl) rfl ?_ ?_
            rotate_left 2
            ·
             go_simp
             constructor
             ·
              rfl
             ·
              rfl
            refine hK.out _ _ ⟨(blk_cell (blk_alloc af.out _) 0).trans rfl, (blk_cell (blk_alloc af.out _) 1).trans rfl, (blk_cell (blk_alloc af.out _) 2).trans rfl, (blk_cell (blk_alloc aW.out _) 0).trans rfl, (blk_cell (blk_alloc aW.out _) 1).trans rfl, (World.cell?_alloc_lt _ _ _ (World.block_lt_of_cell? _ _ (((HB.out.cell (World.block_lt_of_cell? w _ hw255_0)).trans hw255_0)))).trans (((HB.out.cell (World.block_lt_of_cell? w _ hw255_0)).trans hw255_0)), (World.cell?_alloc_lt _ _ _ (World.block_lt_of_cell? _ _ (((HB.out.cell (World.block_lt_of_cell? w _ hw255_1)).trans hw255_1)))).trans (((HB.out.cell (World.block_lt_of_cell? w _ hw255_1)).trans hw255_1)), (World.cell?_alloc_lt _ _ _ (World.block_lt_of_cell? _ _ (((HB.out.cell (World.block_lt_of_cell? w _ hw255_2)).trans hw255_2)))).trans (((HB.out.cell (World.block_lt_of_cell? w _ hw255_2)).trans hw255_2))⟩ (fun hHeld => ?_)
            clear hK K
            refine normQ ?_
            refine one_ (i := 11) (N := some 123) #[true, true, true, true, true, true, true, true, true, true, true, true, false] rfl rfl (one_of HT_.out (by kernel_rfl)) (by decide) (fun K hK => ?_)
            refine Kd.R_append_step k108 (w0 := w) w.heap.size (by rfl) (.tmp 112) (.tmp 122) 104 108 (.agg #[(.int .i64 0), (.int .i64 0), (.int .i64 0), (.int .i64 0), (.bool false), (.int .i64 0), (.bool false)]) 56 rfl Try.underlying104 info108 rfl (by decide) (by omega) u6 x6_2 (⟨(⟨(rd_T61 ah x104_2).f0, (rd_T61 ah x104_2).f1, (rd_T61 ah x104_2).f2⟩ : S61), (⟨(rd_T67 ae x104_2).f0, (rd_T67 ae x104_2).f1⟩ : S67), (⟨x104_2, false⟩ : S67)⟩ : S108) [.int .i64 ((rd_T61 ah x104_2).f0), .int .i64 ((rd_T61 ah x104_2).f1), .int .i64 ((rd_T61 ah x104_2).f2), .int .i64 ((rd_T67 ae x104_2).f0), .bool ((rd_T67 ae x104_2).f1), .int .i64 x104_2, .bool false] (fun _ => True) (fun _ => False) rfl rfl ?aP (fun _ hk => hk.elim) ?aF ?aO ?aB ?aS ?aL ?_
            (case aP => exact k108_mkM _ _ _ (⟨(⟨(rd_T61 ah x104_2).f0, (rd_T61 ah x104_2).f1, (rd_T61 ah x104_2).f2⟩ : S61), (⟨(rd_T67 ae x104_2).f0, (rd_T67 ae x104_2).f1⟩ : S67), (⟨x104_2, false⟩ : S67)⟩ : S108))
            (case aB => exact (zqI HB.out an.out ao.out bs.out))
            (case aF => exact (fun _ _ => trivial))
            (case aO => exact (zqC aj.out))
            (case aS => exact (below_size (zqI HB.out an.out ao.out bs.out)))
            (case aL => have := LMc165.out; omega)
            intro v257 w172 ho hb hg hat
            rw [← Ny256.out] at ho
            replace af := zA (blk_grown (g := ak) (o := .cells #[.slice aK aa.length ar, .slice (some ad255) ah.length au, .slice (some ad252) ae.length av] 28 (0, 0)) (zqB af.out) hg (Kd.R_ne aj.out af.out (by decide)))
            replace ag := zA (blk_grown (g := al) (o := .cells #[.slice ax ai.length ay, .slice aD ac.length az, .slice aM ab.length aA] 28 (0, 0)) (zqB ag.out) hg (Kd.R_ne aj.out ag.out (by decide)))
            replace aW := zA (blk_grown (g := aX) (o := .cells #[.int .i64 ((rd_T67 ae x104_2).f0), .bool ((rd_T67 ae x104_2).f1)] 67 (0, 0)) (zqB aW.out) hg (Kd.R_ne aj.out aW.out (by decide)))
            replace HB := zA (hb)
            have HO258 := zA (ho)
            clear aj ho hb hg hat
            refine hK.out _ _ ⟨(blk_cell af.out 0).trans rfl, (blk_cell af.out 1).trans rfl, (blk_cell af.out 2).trans rfl, (blk_cell aW.out 0).trans rfl, (blk_cell aW.out 1).trans rfl, ((HB.out.cell (World.block_lt_of_cell? w _ hw255_0)).trans hw255_0), ((HB.out.cell (World.block_lt_of_cell? w _ hw255_1)).trans hw255_1), ((HB.out.cell (World.block_lt_of_cell? w _ hw255_2)).trans hw255_2)⟩ (fun hHeld => ?_)
            clear hK K
            refine normQ ?_
            refine pureQ 12 (some 6) HT_ ?_
            refine done_ (done_of HT_.out (by kernel_rfl)) ?_
            try go_wp2
            go_roundg k2
            case measure => have := HK1.out; have := HK2.out; omega
            case rel => exact ⟨(y256), (wrap64 (x104_2 + 1)), zqQ, H', ⟨by have := HK1.out; have := HK2.out; omega⟩, ⟨zqC HO258.out⟩, ⟨zqB af.out⟩, ⟨zqB ag.out⟩, ⟨zqI HB.out an.out ao.out bs.out⟩⟩
           ·
            rw [if_neg c165] at H
            exact absurd H (by simp)
          ·
           rw [if_neg c164] at H
           exact absurd H (by simp)
        ·
         rw [if_neg c156] at H
         exact absurd H (by simp)
       ·
        rw [if_neg c155] at H
        exact absurd H (by simp)
      ·
       rw [if_neg c154] at H
       have c154b0 : decide (x104_2 < (ae.length : Int)) = false := decide_eq_false c154
       clear c154
       have H' := zA H
       clear H
       have hnb173 := bc.out
       have hnc173 := bb.out
       have hcz174_0 : wr.cell? ⟨al, 0, none⟩ = some (.slice ax ai.length ay) := (blk_cell ag.out 0).trans rfl
       have hcz174_1 : wr.cell? ⟨al, 1, none⟩ = some (.slice aD ac.length az) := (blk_cell ag.out 1).trans rfl
       have hcz174_2 : wr.cell? ⟨al, 2, none⟩ = some (.slice aM ab.length aA) := (blk_cell ag.out 2).trans rfl
       have hfz174_0 := blk_frozen ag.out 0
       have hfz174_1 := blk_frozen ag.out 1
       have hfz174_2 := blk_frozen ag.out 2
       go_wp2
       go_loopg [6, 128] k2 (fun kq v6 v128 w' => ∃ (x6_3 : List (S108)) (x128_3 : Int), v128 = .int .i64 x128_3 ∧ Aside0 (edit_meet.l2 kq x6_3 ab (ab.length : Int) x128_3 aa ah ae ai ac ab = some (r1, r2)) ∧ Aside0 (kq ≤ k2) ∧ Aside0 (Kd.R k108 108 w' w.heap.size (fun _ => True) v6 x6_3) ∧ Aside0 (w'.heap[ak]? = some (.cells #[(.slice aK aa.length ar), (.slice aw ah.length au), (.slice aE ae.length av)] 28 (0, 0))) ∧ Aside0 (w'.heap[al]? = some (.cells #[(.slice ax ai.length ay), (.slice aD ac.length az), (.slice aM ab.length aA)] 28 (0, 0))) ∧ Aside0 (Below w.heap.size w w'))
       case atStart => exact ⟨(x6_2), (0), zqQ, H', ⟨Nat.le_refl _⟩, ⟨zqC aj.out⟩, ⟨zqB af.out⟩, ⟨zqB ag.out⟩, ⟨zqH HB.out an.out ao.out⟩⟩
       case round =>
        clear H'
        obtain ⟨x6_3, x128_3, rfl, HA, HK3, aj, af, ag, HB⟩ := hrel
        cases gk with
        | zero => exact absurd HA.out (by simp [edit_meet.l2])
        | succ k3 =>
         have H := HA.out
         clear HA
         simp only [edit_meet.l2] at H
         by_cases c175 : x128_3 < (ab.length : Int)
         ·
          rw [if_pos c175] at H
          have c175b0 : decide (x128_3 < (ab.length : Int)) = true := decide_eq_true c175
          clear c175
          by_cases c176 : 0 ≤ x128_3
          ·
           rw [if_pos c176] at H
           have c176b0 : decide (0 ≤ x128_3) = true := decide_eq_true c176
           clear c176
           by_cases c177 : x128_3 < (ab.length : Int)
           ·
            rw [if_pos c177] at H
            have c177b0 : decide (x128_3 < (ab.length : Int)) = true := decide_eq_true c177
            clear c177
            replace H := Option.bind_eq_some_iff.mp H
            obtain ⟨t261, A1780, H⟩ := H
            replace H : (if t261 = true then (edit_meet.l2 k3 x6_3 ab (ab.length : Int) (wrap64 (x128_3 + 1)) aa ah ae ai ac ab) else (if (rd_T67 ab x128_3).f1 = true then ((edit_Patch_kept.f k3 aa ah ae ((rd_T67 ab x128_3).f0)).bind fun t263 => (if x128_3 < (ac.length : Int) then (if x6_3.length < 2513169434916 then (edit_meet.l2 k3 (x6_3 ++ [(⟨(⟨(rd_T61 ac x128_3).f0, (rd_T61 ac x128_3).f1, (rd_T61 ac x128_3).f2⟩ : S61), (⟨(rd_T67 ab x128_3).f0, (rd_T67 ab x128_3).f1⟩ : S67), (⟨t263, (rd_T67 ab x128_3).f1⟩ : S67)⟩ : S108)]) ab (ab.length : Int) (wrap64 (x128_3 + 1)) aa ah ae ai ac ab) else (none)) else (none))) else (if x128_3 < (ac.length : Int) then (if x6_3.length < 2513169434916 then (edit_meet.l2 k3 (x6_3 ++ [(⟨(⟨(rd_T61 ac x128_3).f0, (rd_T61 ac x128_3).f1, (rd_T61 ac x128_3).f2⟩ : S61), (⟨(rd_T67 ab x128_3).f0, (rd_T67 ab x128_3).f1⟩ : S67), (⟨(rd_T67 ab x128_3).f0, (rd_T67 ab x128_3).f1⟩ : S67)⟩ : S108)]) ab (ab.length : Int) (wrap64 (x128_3 + 1)) aa ah ae ai ac ab) else (none)) else (none)))) = some (r1, r2) := H
            have A178 := zA A1780
            clear A1780
            by_cases c179 : t261 = true
            ·
             subst c179
             have H1 : (edit_meet.l2 k3 x6_3 ab (ab.length : Int) (wrap64 (x128_3 + 1)) aa ah ae ai ac ab) = some (r1, r2) := by rw [if_pos rfl] at H; exact H
             clear H; have H := H1; clear H1
             have H' := zA H
             clear H
             have p259 : 0 ≤ (x128_3 : Int) := of_decide_eq_true (zqD)
             have q259 : x128_3 < (ab.length : Int) := of_decide_eq_true (zqD)
             obtain ⟨ad259, e259, hx259_0, hx259_1⟩ := at_T67 bp.out x128_3 p259 q259
             cases e259
             replace hx259_0 := (HB.out.cell (World.block_lt_of_cell? w _ hx259_0)).trans hx259_0
             replace hx259_1 := (HB.out.cell (World.block_lt_of_cell? w _ hx259_1)).trans hx259_1
             replace p259 := eq_true p259; replace q259 := eq_true q259
             go_wp2_with (first | ((with_reducible refine gate_dst (N := 16) rfl ?_); refine box_event ?hg (N := 16) ?hd (cs := #[.int .i64 0, .bool false]) (t := 67) ?hr ?_; (case hd => rfl); (case hg => rfl); (case hr => first | (go_simp; done) | (go_simp; rfl)); intro aG hg w180 hbox hb; replace aj := zA (Kd.R_below (zqC aj.out) hb); have aq := zA (hbox); have cd := zA ((by rw [hg]; exact (below_size (zqH HB.out an.out ao.out)) : w.heap.size ≤ aG)); have aY := zA ((by rw [hg]; exact (below_size (zqH HB.out an.out ao.out)) : w.heap.size ≤ aG)); replace HB := zA (below_step (zqH HB.out an.out ao.out) hb); have a9 := zA ((by rw [hg]; exact Nat.ne_of_lt (blk_lt (g := ak) (o := .cells #[.slice aK aa.length ar, .slice aw ah.length au, .slice aE ae.length av] 28 (0, 0)) (zqB af.out)) : ak ≠ aG)); have bB := zA ((by rw [hg]; exact Nat.ne_of_gt (blk_lt (g := ak) (o := .cells #[.slice aK aa.length ar, .slice aw ah.length au, .slice aE ae.length av] 28 (0, 0)) (zqB af.out)) : aG ≠ ak)); replace af := zA (blk_below (g := ak) (o := .cells #[.slice aK aa.length ar, .slice aw ah.length au, .slice aE ae.length av] 28 (0, 0)) (zqB af.out) hb); have ba := zA ((by rw [hg]; exact Nat.ne_of_lt (blk_lt (g := al) (o := .cells #[.slice ax ai.length ay, .slice aD ac.length az, .slice (some ad259) ab.length aA] 28 (0, 0)) (zqB ag.out)) : al ≠ aG)); have bC := zA ((by rw [hg]; exact Nat.ne_of_gt (blk_lt (g := al) (o := .cells #[.slice ax ai.length ay, .slice aD ac.length az, .slice (some ad259) ab.length aA] 28 (0, 0)) (zqB ag.out)) : aG ≠ al)); replace ag := zA (blk_below (g := al) (o := .cells #[.slice ax ai.length ay, .slice aD ac.length az, .slice (some ad259) ab.length aA] 28 (0, 0)) (zqB ag.out) hb); clear hb hbox hg; have hnb181 := bB.out; have hnc181 := a9.out; have hnb182 := bC.out; have hnc182 := ba.out; have hcz183_0 : w180.cell? ⟨aG, 0, none⟩ = some (.int .i64 0) := (blk_cell aq.out 0).trans rfl; have hcz183_1 : w180.cell? ⟨aG, 1, none⟩ = some (.bool false) := (blk_cell aq.out 1).trans rfl; have hfz183_0 := blk_frozen aq.out 0; have hfz183_1 := blk_frozen aq.out 1) | ((with_reducible refine gate_callee (f := 71) rfl ?_); refine goesL_ (some 134) rfl rfl Try.func71 (by kernel_rfl) rfl #[.agg #[.int .i64 ((rd_T67 ab x128_3).f0), .bool ((rd_T67 ab x128_3).f1)]] rfl zqE ?_; (with_reducible refine (edit_Origin_self.calls ((rd_T67 ab x128_3).f0) ((rd_T67 ab x128_3).f1) true _ A178.out).mono ?_); rintro e w184 ⟨rfl, hb⟩; refine ⟨_, rfl, ?_⟩; replace aj := zA (Kd.R_below (by (with_reducible repeat (first | apply Kd.R_alloc | apply Kd.R_drewN | apply Kd.R_drew)); exact (Kd.R_mono (Kd.R_far (p := ⟨aG, 1, none⟩) (Kd.R_far (p := ⟨aG, 0, none⟩) (Kd.R_types aj.out aq.out (by decide)) (fun _ hk => hk.2) (.int .i64 ((rd_T67 ab x128_3).f0))) (fun _ hk => hk.2) (.bool ((rd_T67 ab x128_3).f1))) (fun _ h_ => h_.1))) hb); replace af := zA (blk_below (g := ak) (o := .cells #[.slice aK aa.length ar, .slice aw ah.length au, .slice aE ae.length av] 28 (0, 0)) (by (with_reducible repeat (first | refine blk_drewN ?_ _ | refine blk_drew ?_ | refine blk_alloc ?_ _)); refine blk_far ?_ a9.out _; (with_reducible repeat (first | refine blk_drewN ?_ _ | refine blk_drew ?_ | refine blk_alloc ?_ _)); refine blk_far ?_ a9.out _; (with_reducible repeat (first | refine blk_drewN ?_ _ | refine blk_drew ?_ | refine blk_alloc ?_ _)); exact af.out) hb); replace ag := zA (blk_below (g := al) (o := .cells #[.slice ax ai.length ay, .slice aD ac.length az, .slice (some ad259) ab.length aA] 28 (0, 0)) (by (with_reducible repeat (first | refine blk_drewN ?_ _ | refine blk_drew ?_ | refine blk_alloc ?_ _)); refine blk_far ?_ ba.out _; (with_reducible repeat (first | refine blk_drewN ?_ _ | refine blk_drew ?_ | refine blk_alloc ?_ _)); refine blk_far ?_ ba.out _; (with_reducible repeat (first | refine blk_drewN ?_ _ | refine blk_drew ?_ | refine blk_alloc ?_ _)); exact ag.out) hb); replace aq := zA (blk_below (g := aG) (o := .cells #[.int .i64 ((rd_T67 ab x128_3).f0), .bool ((rd_T67 ab x128_3).f1)] 67 (0, 0)) (by (with_reducible repeat (first | refine blk_drewN ?_ _ | refine blk_drew ?_ | refine blk_alloc ?_ _)); refine blk_put (cs := #[.int .i64 ((rd_T67 ab x128_3).f0), .bool false]) ?_ 1 _ rfl; (with_reducible repeat (first | refine blk_drewN ?_ _ | refine blk_drew ?_ | refine blk_alloc ?_ _)); refine blk_put (cs := #[.int .i64 0, .bool false]) ?_ 0 _ rfl; (with_reducible repeat (first | refine blk_drewN ?_ _ | refine blk_drew ?_ | refine blk_alloc ?_ _)); exact aq.out) hb); replace HB := zA (below_step (zqI HB.out an.out ao.out aY.out) hb); (try clear hb); (try clear hb2); (try clear hk); (try clear hi)))
             go_roundg k3
             case measure => have := HK1.out; have := HK2.out; have := HK3.out; omega
             case rel => exact ⟨(x6_3), (wrap64 (x128_3 + 1)), zqQ, H', ⟨by have := HK1.out; have := HK2.out; have := HK3.out; omega⟩, ⟨zqC aj.out⟩, ⟨zqB af.out⟩, ⟨zqB ag.out⟩, ⟨zqI HB.out an.out ao.out aY.out⟩⟩
            ·
             replace c179 := Bool.eq_false_iff.mpr c179
             subst c179
             have H1 : (if (rd_T67 ab x128_3).f1 = true then ((edit_Patch_kept.f k3 aa ah ae ((rd_T67 ab x128_3).f0)).bind fun t263 => (if x128_3 < (ac.length : Int) then (if x6_3.length < 2513169434916 then (edit_meet.l2 k3 (x6_3 ++ [(⟨(⟨(rd_T61 ac x128_3).f0, (rd_T61 ac x128_3).f1, (rd_T61 ac x128_3).f2⟩ : S61), (⟨(rd_T67 ab x128_3).f0, (rd_T67 ab x128_3).f1⟩ : S67), (⟨t263, (rd_T67 ab x128_3).f1⟩ : S67)⟩ : S108)]) ab (ab.length : Int) (wrap64 (x128_3 + 1)) aa ah ae ai ac ab) else (none)) else (none))) else (if x128_3 < (ac.length : Int) then (if x6_3.length < 2513169434916 then (edit_meet.l2 k3 (x6_3 ++ [(⟨(⟨(rd_T61 ac x128_3).f0, (rd_T61 ac x128_3).f1, (rd_T61 ac x128_3).f2⟩ : S61), (⟨(rd_T67 ab x128_3).f0, (rd_T67 ab x128_3).f1⟩ : S67), (⟨(rd_T67 ab x128_3).f0, (rd_T67 ab x128_3).f1⟩ : S67)⟩ : S108)]) ab (ab.length : Int) (wrap64 (x128_3 + 1)) aa ah ae ai ac ab) else (none)) else (none))) = some (r1, r2) := by rw [if_neg (show ¬ (false = true) by decide)] at H; exact H
             clear H; have H := H1; clear H1
             obtain ⟨bq185, hbq185⟩ : ∃ b_ : Bool, b_ = ((rd_T67 ab x128_3).f1) := ⟨_, rfl⟩
             replace H : (if bq185 = true then ((edit_Patch_kept.f k3 aa ah ae ((rd_T67 ab x128_3).f0)).bind fun t263 => (if x128_3 < (ac.length : Int) then (if x6_3.length < 2513169434916 then (edit_meet.l2 k3 (x6_3 ++ [(⟨(⟨(rd_T61 ac x128_3).f0, (rd_T61 ac x128_3).f1, (rd_T61 ac x128_3).f2⟩ : S61), (⟨(rd_T67 ab x128_3).f0, bq185⟩ : S67), (⟨t263, bq185⟩ : S67)⟩ : S108)]) ab (ab.length : Int) (wrap64 (x128_3 + 1)) aa ah ae ai ac ab) else (none)) else (none))) else (if x128_3 < (ac.length : Int) then (if x6_3.length < 2513169434916 then (edit_meet.l2 k3 (x6_3 ++ [(⟨(⟨(rd_T61 ac x128_3).f0, (rd_T61 ac x128_3).f1, (rd_T61 ac x128_3).f2⟩ : S61), (⟨(rd_T67 ab x128_3).f0, bq185⟩ : S67), (⟨(rd_T67 ab x128_3).f0, bq185⟩ : S67)⟩ : S108)]) ab (ab.length : Int) (wrap64 (x128_3 + 1)) aa ah ae ai ac ab) else (none)) else (none))) = some (r1, r2) := by rw [← hbq185] at H; exact H
             (try rw [← hbq185] at A178)
             have ce := zA hbq185
             clear hbq185
             by_cases c186 : bq185 = true
             ·
              subst c186
              have H1 : ((edit_Patch_kept.f k3 aa ah ae ((rd_T67 ab x128_3).f0)).bind fun t263 => (if x128_3 < (ac.length : Int) then (if x6_3.length < 2513169434916 then (edit_meet.l2 k3 (x6_3 ++ [(⟨(⟨(rd_T61 ac x128_3).f0, (rd_T61 ac x128_3).f1, (rd_T61 ac x128_3).f2⟩ : S61), (⟨(rd_T67 ab x128_3).f0, true⟩ : S67), (⟨t263, true⟩ : S67)⟩ : S108)]) ab (ab.length : Int) (wrap64 (x128_3 + 1)) aa ah ae ai ac ab) else (none)) else (none))) = some (r1, r2) := by rw [if_pos rfl] at H; exact H
              clear H; have H := H1; clear H1
              replace H := Option.bind_eq_some_iff.mp H
              obtain ⟨t263, A1870, H⟩ := H
              replace H : (if x128_3 < (ac.length : Int) then (if x6_3.length < 2513169434916 then (edit_meet.l2 k3 (x6_3 ++ [(⟨(⟨(rd_T61 ac x128_3).f0, (rd_T61 ac x128_3).f1, (rd_T61 ac x128_3).f2⟩ : S61), (⟨(rd_T67 ab x128_3).f0, true⟩ : S67), (⟨t263, true⟩ : S67)⟩ : S108)]) ab (ab.length : Int) (wrap64 (x128_3 + 1)) aa ah ae ai ac ab) else (none)) else (none)) = some (r1, r2) := H
              have A187 := zA A1870
              clear A1870
              by_cases c188 : x128_3 < (ac.length : Int)
              ·
               rw [if_pos c188] at H
               have c188b0 : decide (x128_3 < (ac.length : Int)) = true := decide_eq_true c188
               clear c188
               by_cases c189 : x6_3.length < 2513169434916
               ·
                rw [if_pos c189] at H
                have LMc189 := zA c189
                clear c189
                obtain ⟨y265, bU⟩ : ∃ y_ : List (S108), y_ = (x6_3 ++ [(⟨(⟨(rd_T61 ac x128_3).f0, (rd_T61 ac x128_3).f1, (rd_T61 ac x128_3).f2⟩ : S61), (⟨(rd_T67 ab x128_3).f0, true⟩ : S67), (⟨t263, true⟩ : S67)⟩ : S108)]) := ⟨_, rfl⟩
                replace H : (edit_meet.l2 k3 y265 ab (ab.length : Int) (wrap64 (x128_3 + 1)) aa ah ae ai ac ab) = some (r1, r2) := zqF bU H
                have Ny265 := zA bU
                clear bU
                have H' := zA H
                clear H
                have p259 : 0 ≤ (x128_3 : Int) := of_decide_eq_true (zqD)
                have q259 : x128_3 < (ab.length : Int) := of_decide_eq_true (zqD)
                obtain ⟨ad259, e259, hx259_0, hx259_1⟩ := at_T67 bp.out x128_3 p259 q259
                (try rw [← ce.out] at hx259_1)
                cases e259
                replace hx259_0 := (HB.out.cell (World.block_lt_of_cell? w _ hx259_0)).trans hx259_0
                replace hx259_1 := (HB.out.cell (World.block_lt_of_cell? w _ hx259_1)).trans hx259_1
                replace p259 := eq_true p259; replace q259 := eq_true q259
                try go_wp2_with (first | ((with_reducible refine gate_dst (N := 16) rfl ?_); refine box_event ?hg (N := 16) ?hd (cs := #[.int .i64 0, .bool false]) (t := 67) ?hr ?_; (case hd => rfl); (case hg => rfl); (case hr => first | (go_simp; done) | (go_simp; rfl)); intro aG hg w190 hbox hb; replace aj := zA (Kd.R_below (zqC aj.out) hb); have aq := zA (hbox); have cd := zA ((by rw [hg]; exact (below_size (zqH HB.out an.out ao.out)) : w.heap.size ≤ aG)); have aY := zA ((by rw [hg]; exact (below_size (zqH HB.out an.out ao.out)) : w.heap.size ≤ aG)); replace HB := zA (below_step (zqH HB.out an.out ao.out) hb); have a9 := zA ((by rw [hg]; exact Nat.ne_of_lt (blk_lt (g := ak) (o := .cells #[.slice aK aa.length ar, .slice aw ah.length au, .slice aE ae.length av] 28 (0, 0)) (zqB af.out)) : ak ≠ aG)); have bB := zA ((by rw [hg]; exact Nat.ne_of_gt (blk_lt (g := ak) (o := .cells #[.slice aK aa.length ar, .slice aw ah.length au, .slice aE ae.length av] 28 (0, 0)) (zqB af.out)) : aG ≠ ak)); replace af := zA (blk_below (g := ak) (o := .cells #[.slice aK aa.length ar, .slice aw ah.length au, .slice aE ae.length av] 28 (0, 0)) (zqB af.out) hb); have ba := zA ((by rw [hg]; exact Nat.ne_of_lt (blk_lt (g := al) (o := .cells #[.slice ax ai.length ay, .slice aD ac.length az, .slice (some ad259) ab.length aA] 28 (0, 0)) (zqB ag.out)) : al ≠ aG)); have bC := zA ((by rw [hg]; exact Nat.ne_of_gt (blk_lt (g := al) (o := .cells #[.slice ax ai.length ay, .slice aD ac.length az, .slice (some ad259) ab.length aA] 28 (0, 0)) (zqB ag.out)) : aG ≠ al)); replace ag := zA (blk_below (g := al) (o := .cells #[.slice ax ai.length ay, .slice aD ac.length az, .slice (some ad259) ab.length aA] 28 (0, 0)) (zqB ag.out) hb); clear hb hbox hg; have hnb191 := bB.out; have hnc191 := a9.out; have hnb192 := bC.out; have hnc192 := ba.out; have hcz193_0 : w190.cell? ⟨aG, 0, none⟩ = some (.int .i64 0) := (blk_cell aq.out 0).trans rfl; have hcz193_1 : w190.cell? ⟨aG, 1, none⟩ = some (.bool false) := (blk_cell aq.out 1).trans rfl; have hfz193_0 := blk_frozen aq.out 0; have hfz193_1 := blk_frozen aq.out 1) | ((with_reducible refine gate_callee (f := 71) rfl ?_); refine goesL_ (some 134) rfl rfl Try.func71 (by kernel_rfl) rfl #[.agg #[.int .i64 ((rd_T67 ab x128_3).f0), .bool true]] rfl zqE ?_; (with_reducible refine (edit_Origin_self.calls ((rd_T67 ab x128_3).f0) true false _ A178.out).mono ?_); rintro e w194 ⟨rfl, hb⟩; refine ⟨_, rfl, ?_⟩; replace aj := zA (Kd.R_below (by (with_reducible repeat (first | apply Kd.R_alloc | apply Kd.R_drewN | apply Kd.R_drew)); exact (Kd.R_mono (Kd.R_far (p := ⟨aG, 1, none⟩) (Kd.R_far (p := ⟨aG, 0, none⟩) (Kd.R_types aj.out aq.out (by decide)) (fun _ hk => hk.2) (.int .i64 ((rd_T67 ab x128_3).f0))) (fun _ hk => hk.2) (.bool true)) (fun _ h_ => h_.1))) hb); replace af := zA (blk_below (g := ak) (o := .cells #[.slice aK aa.length ar, .slice aw ah.length au, .slice aE ae.length av] 28 (0, 0)) (by (with_reducible repeat (first | refine blk_drewN ?_ _ | refine blk_drew ?_ | refine blk_alloc ?_ _)); refine blk_far ?_ a9.out _; (with_reducible repeat (first | refine blk_drewN ?_ _ | refine blk_drew ?_ | refine blk_alloc ?_ _)); refine blk_far ?_ a9.out _; (with_reducible repeat (first | refine blk_drewN ?_ _ | refine blk_drew ?_ | refine blk_alloc ?_ _)); exact af.out) hb); replace ag := zA (blk_below (g := al) (o := .cells #[.slice ax ai.length ay, .slice aD ac.length az, .slice (some ad259) ab.length aA] 28 (0, 0)) (by (with_reducible repeat (first | refine blk_drewN ?_ _ | refine blk_drew ?_ | refine blk_alloc ?_ _)); refine blk_far ?_ ba.out _; (with_reducible repeat (first | refine blk_drewN ?_ _ | refine blk_drew ?_ | refine blk_alloc ?_ _)); refine blk_far ?_ ba.out _; (with_reducible repeat (first | refine blk_drewN ?_ _ | refine blk_drew ?_ | refine blk_alloc ?_ _)); exact ag.out) hb); replace aq := zA (blk_below (g := aG) (o := .cells #[.int .i64 ((rd_T67 ab x128_3).f0), .bool true] 67 (0, 0)) (by (with_reducible repeat (first | refine blk_drewN ?_ _ | refine blk_drew ?_ | refine blk_alloc ?_ _)); refine blk_put (cs := #[.int .i64 ((rd_T67 ab x128_3).f0), .bool false]) ?_ 1 _ rfl; (with_reducible repeat (first | refine blk_drewN ?_ _ | refine blk_drew ?_ | refine blk_alloc ?_ _)); refine blk_put (cs := #[.int .i64 0, .bool false]) ?_ 0 _ rfl; (with_reducible repeat (first | refine blk_drewN ?_ _ | refine blk_drew ?_ | refine blk_alloc ?_ _)); exact aq.out) hb); replace HB := zA (below_step (zqI HB.out an.out ao.out aY.out) hb); (try clear hb); (try clear hb2); (try clear hk); (try clear hi); have hcz195_0 : w194.cell? ⟨aG, 0, none⟩ = some (.int .i64 ((rd_T67 ab x128_3).f0)) := (blk_cell aq.out 0).trans rfl; have hcz195_1 : w194.cell? ⟨aG, 1, none⟩ = some (.bool true) := (blk_cell aq.out 1).trans rfl; have hfz195_0 := blk_frozen aq.out 0; have hfz195_1 := blk_frozen aq.out 1) | ((with_reducible refine gate_dst (N := 17) rfl ?_); refine box_event ?hg (N := 17) ?hd (cs := #[.int .i64 0, .bool false]) (t := 67) ?hr ?_; (case hd => rfl); (case hg => rfl); (case hr => first | (go_simp; done) | (go_simp; rfl)); intro aI hg w196 hbox hb; replace aj := zA (Kd.R_below (zqC aj.out) hb); have aN := zA (hbox); have GW262 := zA ((by rw [hg]; exact (below_size (zqI HB.out an.out ao.out aY.out)) : w.heap.size ≤ aI)); have a6 := zA ((by rw [hg]; exact (below_size (zqI HB.out an.out ao.out aY.out)) : w.heap.size ≤ aI)); replace HB := zA (below_step (zqI HB.out an.out ao.out aY.out) hb); have bl := zA ((by rw [hg]; exact Nat.ne_of_lt (blk_lt (g := ak) (o := .cells #[.slice aK aa.length ar, .slice aw ah.length au, .slice aE ae.length av] 28 (0, 0)) (zqB af.out)) : ak ≠ aI)); have bV := zA ((by rw [hg]; exact Nat.ne_of_gt (blk_lt (g := ak) (o := .cells #[.slice aK aa.length ar, .slice aw ah.length au, .slice aE ae.length av] 28 (0, 0)) (zqB af.out)) : aI ≠ ak)); replace af := zA (blk_below (g := ak) (o := .cells #[.slice aK aa.length ar, .slice aw ah.length au, .slice aE ae.length av] 28 (0, 0)) (zqB af.out) hb); have bm := zA ((by rw [hg]; exact Nat.ne_of_lt (blk_lt (g := al) (o := .cells #[.slice ax ai.length ay, .slice aD ac.length az, .slice (some ad259) ab.length aA] 28 (0, 0)) (zqB ag.out)) : al ≠ aI)); have bW := zA ((by rw [hg]; exact Nat.ne_of_gt (blk_lt (g := al) (o := .cells #[.slice ax ai.length ay, .slice aD ac.length az, .slice (some ad259) ab.length aA] 28 (0, 0)) (zqB ag.out)) : aI ≠ al)); replace ag := zA (blk_below (g := al) (o := .cells #[.slice ax ai.length ay, .slice aD ac.length az, .slice (some ad259) ab.length aA] 28 (0, 0)) (zqB ag.out) hb); have bn := zA ((by rw [hg]; exact Nat.ne_of_lt (blk_lt (g := aG) (o := .cells #[.int .i64 ((rd_T67 ab x128_3).f0), .bool true] 67 (0, 0)) (zqB aq.out)) : aG ≠ aI)); have bX := zA ((by rw [hg]; exact Nat.ne_of_gt (blk_lt (g := aG) (o := .cells #[.int .i64 ((rd_T67 ab x128_3).f0), .bool true] 67 (0, 0)) (zqB aq.out)) : aI ≠ aG)); replace aq := zA (blk_below (g := aG) (o := .cells #[.int .i64 ((rd_T67 ab x128_3).f0), .bool true] 67 (0, 0)) (zqB aq.out) hb); clear hb hbox hg; have hnb197 := bV.out; have hnc197 := bl.out; have hnb198 := bW.out; have hnc198 := bm.out; have hnb199 := bX.out; have hnc199 := bn.out; have hcz200_0 : w196.cell? ⟨aI, 0, none⟩ = some (.int .i64 0) := (blk_cell aN.out 0).trans rfl; have hcz200_1 : w196.cell? ⟨aI, 1, none⟩ = some (.bool false) := (blk_cell aN.out 1).trans rfl; have hfz200_0 := blk_frozen aN.out 0; have hfz200_1 := blk_frozen aN.out 1; have hcz201_0 : w196.cell? ⟨aG, 0, none⟩ = some (.int .i64 ((rd_T67 ab x128_3).f0)) := (blk_cell aq.out 0).trans rfl; have hcz201_1 : w196.cell? ⟨aG, 1, none⟩ = some (.bool true) := (blk_cell aq.out 1).trans rfl; have hfz201_0 := blk_frozen aq.out 0; have hfz201_1 := blk_frozen aq.out 1; have hnb202 := bb.out; have hnc202 := bc.out; have hcz203_0 : w196.cell? ⟨ak, 0, none⟩ = some (.slice aK aa.length ar) := (blk_cell af.out 0).trans rfl; have hcz203_1 : w196.cell? ⟨ak, 1, none⟩ = some (.slice aw ah.length au) := (blk_cell af.out 1).trans rfl; have hcz203_2 : w196.cell? ⟨ak, 2, none⟩ = some (.slice aE ae.length av) := (blk_cell af.out 2).trans rfl; have hfz203_0 := blk_frozen af.out 0; have hfz203_1 := blk_frozen af.out 1; have hfz203_2 := blk_frozen af.out 2) | ((with_reducible refine gate_callee (f := 68) rfl ?_); refine goesL_ (some 142) rfl rfl Try.func68 (by kernel_rfl) rfl #[.agg #[.slice aK aa.length ar, .slice aw ah.length au, .slice aE ae.length av], .int .i64 ((rd_T67 ab x128_3).f0)] rfl zqE ?_; (with_reducible refine (edit_Patch_kept.calls k3 _ _ aa _ _ ah _ _ ae ((rd_T67 ab x128_3).f0) t263 _ ?side1 ?side2 ?side3 ?side4 ?side5 ?side6 A187.out).mono ?_); (case side1 => exact Kd.C_below bA.out (zqJ HB.out an.out ao.out aY.out a6.out)); (case side2 => exact bD.out); (case side3 => exact Kd.C_below bv.out (zqJ HB.out an.out ao.out aY.out a6.out)); (case side4 => exact bE.out); (case side5 => exact Kd.C_below bw.out (zqJ HB.out an.out ao.out aY.out a6.out)); (case side6 => exact bF.out); rintro e w204 ⟨rfl, hb⟩; refine ⟨_, rfl, ?_⟩; replace aj := zA (Kd.R_below (by (with_reducible repeat (first | apply Kd.R_alloc | apply Kd.R_drewN | apply Kd.R_drew)); exact (Kd.R_mono (Kd.R_far (p := ⟨aI, 1, none⟩) (Kd.R_far (p := ⟨aI, 0, none⟩) (Kd.R_types aj.out aN.out (by decide)) (fun _ hk => hk.2) (.int .i64 ((rd_T67 ab x128_3).f0))) (fun _ hk => hk.2) (.bool true)) (fun _ h_ => h_.1))) hb); replace af := zA (blk_below (g := ak) (o := .cells #[.slice aK aa.length ar, .slice aw ah.length au, .slice aE ae.length av] 28 (0, 0)) (by (with_reducible repeat (first | refine blk_drewN ?_ _ | refine blk_drew ?_ | refine blk_alloc ?_ _)); refine blk_far ?_ bl.out _; (with_reducible repeat (first | refine blk_drewN ?_ _ | refine blk_drew ?_ | refine blk_alloc ?_ _)); refine blk_far ?_ bl.out _; (with_reducible repeat (first | refine blk_drewN ?_ _ | refine blk_drew ?_ | refine blk_alloc ?_ _)); exact af.out) hb); replace ag := zA (blk_below (g := al) (o := .cells #[.slice ax ai.length ay, .slice aD ac.length az, .slice (some ad259) ab.length aA] 28 (0, 0)) (by (with_reducible repeat (first | refine blk_drewN ?_ _ | refine blk_drew ?_ | refine blk_alloc ?_ _)); refine blk_far ?_ bm.out _; (with_reducible repeat (first | refine blk_drewN ?_ _ | refine blk_drew ?_ | refine blk_alloc ?_ _)); refine blk_far ?_ bm.out _; (with_reducible repeat (first | refine blk_drewN ?_ _ | refine blk_drew ?_ | refine blk_alloc ?_ _)); exact ag.out) hb); replace aq := zA (blk_below (g := aG) (o := .cells #[.int .i64 ((rd_T67 ab x128_3).f0), .bool true] 67 (0, 0)) (by (with_reducible repeat (first | refine blk_drewN ?_ _ | refine blk_drew ?_ | refine blk_alloc ?_ _)); refine blk_far ?_ bn.out _; (with_reducible repeat (first | refine blk_drewN ?_ _ | refine blk_drew ?_ | refine blk_alloc ?_ _)); refine blk_far ?_ bn.out _; (with_reducible repeat (first | refine blk_drewN ?_ _ | refine blk_drew ?_ | refine blk_alloc ?_ _)); exact aq.out) hb); replace aN := zA (blk_below (g := aI) (o := .cells #[.int .i64 ((rd_T67 ab x128_3).f0), .bool true] 67 (0, 0)) (by (with_reducible repeat (first | refine blk_drewN ?_ _ | refine blk_drew ?_ | refine blk_alloc ?_ _)); refine blk_put (cs := #[.int .i64 ((rd_T67 ab x128_3).f0), .bool false]) ?_ 1 _ rfl; (with_reducible repeat (first | refine blk_drewN ?_ _ | refine blk_drew ?_ | refine blk_alloc ?_ _)); refine blk_put (cs := #[.int .i64 0, .bool false]) ?_ 0 _ rfl; (with_reducible repeat (first | refine blk_drewN ?_ _ | refine blk_drew ?_ | refine blk_alloc ?_ _)); exact aN.out) hb); replace HB := zA (below_step (zqJ HB.out an.out ao.out aY.out a6.out) hb); (try clear hb); (try clear hb2); (try clear hk); (try clear hi); have hcz205_0 : w204.cell? ⟨aI, 0, none⟩ = some (.int .i64 ((rd_T67 ab x128_3).f0)) := (blk_cell aN.out 0).trans rfl; have hcz205_1 : w204.cell? ⟨aI, 1, none⟩ = some (.bool true) := (blk_cell aN.out 1).trans rfl; have hfz205_0 := blk_frozen aN.out 0; have hfz205_1 := blk_frozen aN.out 1))
                have n0_ : Aside0 (Kd.R k108 108 (w204.setCell ⟨aI, 0, none⟩ (.int .i64 t263)) w.heap.size (fun _ => True) u6 x6_3) := ⟨by (with_reducible repeat (first | apply Kd.R_alloc | apply Kd.R_drewN | apply Kd.R_drew)); exact Kd.R_mono (Kd.R_far (p := ⟨aI, 0, none⟩) (Kd.R_types aj.out aN.out (by decide)) (fun _ hk => hk.2) (.int .i64 t263)) (fun _ hk => trivial)⟩
                have n1_ : Aside0 ((w204.setCell ⟨aI, 0, none⟩ (.int .i64 t263)).heap[ak]? = some (.cells #[.slice aK aa.length ar, .slice aw ah.length au, .slice aE ae.length av] 28 (0, 0))) := ⟨by (with_reducible repeat (first | refine blk_drewN ?_ _ | refine blk_drew ?_ | refine blk_alloc ?_ _)); refine blk_far ?_ bl.out _; (with_reducible repeat (first | refine blk_drewN ?_ _ | refine blk_drew ?_ | refine blk_alloc ?_ _)); exact af.out⟩
                have n2_ : Aside0 ((w204.setCell ⟨aI, 0, none⟩ (.int .i64 t263)).heap[al]? = some (.cells #[.slice ax ai.length ay, .slice aD ac.length az, .slice (some ad259) ab.length aA] 28 (0, 0))) := ⟨by (with_reducible repeat (first | refine blk_drewN ?_ _ | refine blk_drew ?_ | refine blk_alloc ?_ _)); refine blk_far ?_ bm.out _; (with_reducible repeat (first | refine blk_drewN ?_ _ | refine blk_drew ?_ | refine blk_alloc ?_ _)); exact ag.out⟩
                have n3_ : Aside0 ((w204.setCell ⟨aI, 0, none⟩ (.int .i64 t263)).heap[aG]? = some (.cells #[.int .i64 ((rd_T67 ab x128_3).f0), .bool true] 67 (0, 0))) := ⟨by (with_reducible repeat (first | refine blk_drewN ?_ _ | refine blk_drew ?_ | refine blk_alloc ?_ _)); refine blk_far ?_ bn.out _; (with_reducible repeat (first | refine blk_drewN ?_ _ | refine blk_drew ?_ | refine blk_alloc ?_ _)); exact aq.out⟩
                have n4_ : Aside0 ((w204.setCell ⟨aI, 0, none⟩ (.int .i64 t263)).heap[aI]? = some (.cells #[.int .i64 t263, .bool true] 67 (0, 0))) := ⟨by (with_reducible repeat (first | refine blk_drewN ?_ _ | refine blk_drew ?_ | refine blk_alloc ?_ _)); refine blk_put (cs := #[.int .i64 ((rd_T67 ab x128_3).f0), .bool true]) ?_ 0 _ rfl; (with_reducible repeat (first | refine blk_drewN ?_ _ | refine blk_drew ?_ | refine blk_alloc ?_ _)); exact aN.out⟩
                have n5_ : Aside0 (Below w.heap.size w (w204.setCell ⟨aI, 0, none⟩ (.int .i64 t263))) := ⟨zqJ HB.out an.out ao.out aY.out a6.out⟩
                generalize (w204.setCell ⟨aI, 0, none⟩ (.int .i64 t263)) = w206 at n0_ n1_ n2_ n3_ n4_ n5_ ⊢; have aj := n0_; have af := n1_; have ag := n2_; have aq := n3_; have aN := n4_; have HB := n5_; clear n0_ n1_ n2_ n3_ n4_ n5_
                replace aj := zA (Kd.R_drew aj.out)
                replace af := zA (blk_drew af.out)
                replace ag := zA (blk_drew ag.out)
                replace aq := zA (blk_drew aq.out)
                replace aN := zA (blk_drew aN.out)
                replace HB := zA (below_drew1 HB.out)
                have p264 : 0 ≤ (x128_3 : Int) := of_decide_eq_true (zqD)
                have q264 : x128_3 < (ac.length : Int) := of_decide_eq_true (zqD)
                obtain ⟨ad264, e264, hx264_0, hx264_1, hx264_2⟩ := at_T61 bo.out x128_3 p264 q264
                have hw264_2 := hx264_2; have hw264_1 := hx264_1; have hw264_0 := hx264_0; cases e264
                replace hx264_0 := (HB.out.cell (World.block_lt_of_cell? w _ hx264_0)).trans hx264_0
                replace hx264_1 := (HB.out.cell (World.block_lt_of_cell? w _ hx264_1)).trans hx264_1
                replace hx264_2 := (HB.out.cell (World.block_lt_of_cell? w _ hx264_2)).trans hx264_2
                replace p264 := eq_true p264; replace q264 := eq_true q264
                refine start_ (n := 12) (S := fun w' => w'.cell? ⟨al, 0, none⟩ = some (.slice ax ai.length ay) ∧ w'.cell? ⟨al, 1, none⟩ = some (.slice (some ad264) ac.length az) ∧ w'.cell? ⟨al, 2, none⟩ = some (.slice (some ad259) ab.length aA) ∧ w'.cell? ⟨aG, 0, none⟩ = some (.int .i64 ((rd_T67 ab x128_3).f0)) ∧ w'.cell? ⟨aG, 1, none⟩ = some (.bool true) ∧ w'.cell? ⟨aI, 0, none⟩ = some (.int .i64 t263) ∧ w'.cell? ⟨aI, 1, none⟩ = some (.bool true) ∧ w'.cell? (ad264.add ((x128_3).toNat * 3)) = some (.int .i64 ((rd_T61 ac x128_3).f0)) ∧ w'.cell? ⟨(ad264.add ((x128_3).toNat * 3)).block, (ad264.add ((x128_3).toNat * 3)).off + 1, none⟩ = some (.int .i64 ((rd_T61 ac x128_3).f1)) ∧ w'.cell? ⟨(ad264.add ((x128_3).toNat * 3)).block, (ad264.add ((x128_3).toNat * 3)).off + 2, none⟩ = some (.int .i64 ((rd_T61 ac x128_3).f2))) (ds := []) #[false, false, false, false, false, false, false, false, false, false, false, false] (by kernel_rfl) rfl rfl ⟨(blk_cell ag.out 0).trans rfl, (blk_cell ag.out 1).trans rfl, (blk_cell ag.out 2).trans rfl, (blk_cell aq.out 0).trans rfl, (blk_cell aq.out 1).trans rfl, (blk_cell aN.out 0).trans rfl, (blk_cell aN.out 1).trans rfl, ((HB.out.cell (World.block_lt_of_cell? w _ hw264_0)).trans hw264_0), ((HB.out.cell (World.block_lt_of_cell? w _ hw264_1)).trans hw264_1), ((HB.out.cell (World.block_lt_of_cell? w _ hw264_2)).trans hw264_2)⟩ (fun hHeld => ?_); refine with_tabW edit_meet.tab33 edit_meet.bits33 (fun HT_ HW_ => ?_)
                generalize w206.drew = w207 at aj af ag aq aN HB hx264_0 hx264_1 hx264_2 hHeld ⊢
                refine pureQ 0 (some 144) HT_ ?_
                refine pureQ 1 (some 145) HT_ ?_
                refine pureQ 3 (some 147) HT_ ?_
                refine takeQ (v := ?_) (a' := ?_) 2 (some 146) HT_ HW_ hHeld ?_ ?_ ?_
                rotate_left
                ·
                 rintro w' ⟨s0, s1, s2, s3, s4, s5, s6, s7, s8, s9⟩
                 go_simp
                 with_reducible rfl
                rotate_left
                ·
                 exact putQ
                refine pureQ 4 (some 148) HT_ ?_
                refine takeQ (v := ?_) (a' := ?_) 5 (some 149) HT_ HW_ hHeld ?_ ?_ ?_
                rotate_left
                ·
                 rintro w' ⟨s0, s1, s2, s3, s4, s5, s6, s7, s8, s9⟩
                 go_simp
                 with_reducible rfl
                rotate_left
                ·
                 exact putQ
                refine takeQ (v := ?_) (a' := ?_) 6 (some 150) HT_ HW_ hHeld ?_ ?_ ?_
                rotate_left
                ·
                 rintro w' ⟨s0, s1, s2, s3, s4, s5, s6, s7, s8, s9⟩
                 go_simp
                 with_reducible rfl
                rotate_left
                ·
                 exact putQ
                refine takeQ (v := ?_) (a' := ?_) 7 (some 151) HT_ HW_ hHeld ?_ ?_ ?_
                rotate_left
                ·
                 rintro w' ⟨s0, s1, s2, s3, s4, s5, s6, s7, s8, s9⟩
                 go_simp
                 with_reducible rfl
                rotate_left
                ·
                 exact putQ
                refine pureQ 8 (some 152) HT_ ?_
                refine one_ (i := 9) (N := some 153) #[true, true, true, true, true, true, true, true, true, true, false, false] rfl rfl (one_of HT_.out (by kernel_rfl)) (by decide) (fun K hK => ?_)
                refine value_ (w1 := ?_) (v := ?_) (by rfl) rfl ?_ ?_
                rotate_left 2
                ·
                 go_simp
                 constructor
                 ·
                  rfl
                 ·
                  rfl
                refine hK.out _ _ ⟨(blk_cell (blk_alloc ag.out _) 0).trans rfl, (blk_cell (blk_alloc ag.out _) 1).trans rfl, (blk_cell (blk_alloc ag.out _) 2).trans rfl, (blk_cell (blk_alloc aq.out _) 0).trans rfl, (blk_cell (blk_alloc aq.out _) 1).trans rfl, (blk_cell (blk_alloc aN.out _) 0).trans rfl, (blk_cell (blk_alloc aN.out _) 1).trans rfl, (World.cell?_alloc_lt _ _ _ (World.block_lt_of_cell? _ _ (((HB.out.cell (World.block_lt_of_cell? w _ hw264_0)).trans hw264_0)))).trans (((HB.out.cell (World.block_lt_of_cell? w _ hw264_0)).trans hw264_0)), (World.cell?_alloc_lt _ _ _ (World.block_lt_of_cell? _ _ (((HB.out.cell (World.block_lt_of_cell? w _ hw264_1)).trans hw264_1)))).trans (((HB.out.cell (World.block_lt_of_cell? w _ hw264_1)).trans hw264_1)), (World.cell?_alloc_lt _ _ _ (World.block_lt_of_cell? _ _ (((HB.out.cell (World.block_lt_of_cell? w _ hw264_2)).trans hw264_2)))).trans (((HB.out.cell (World.block_lt_of_cell? w _ hw264_2)).trans hw264_2))⟩ (fun hHeld => ?_)
                clear hK K
                refine normQ ?_
                refine one_ (i := 10) (N := some 154) #[true, true, true, true, true, true, true, true, true, true, true, false] rfl rfl (one_of HT_.out (by kernel_rfl)) (by decide) (fun K hK => ?_)
                refine Kd.R_append_step k108 (w0 := w) w.heap.size (by rfl) (.tmp 144) (.tmp 153) 104 108 (.agg #[(.int .i64 0), (.int .i64 0), (.int .i64 0), (.int .i64 0), (.bool false), (.int .i64 0), (.bool false)]) 56 rfl Try.underlying104 info108 rfl (by decide) (by omega) u6 x6_3 (⟨(⟨(rd_T61 ac x128_3).f0, (rd_T61 ac x128_3).f1, (rd_T61 ac x128_3).f2⟩ : S61), (⟨(rd_T67 ab x128_3).f0, true⟩ : S67), (⟨t263, true⟩ : S67)⟩ : S108) [.int .i64 ((rd_T61 ac x128_3).f0), .int .i64 ((rd_T61 ac x128_3).f1), .int .i64 ((rd_T61 ac x128_3).f2), .int .i64 ((rd_T67 ab x128_3).f0), .bool true, .int .i64 t263, .bool true] (fun _ => True) (fun _ => False) rfl rfl ?aP (fun _ hk => hk.elim) ?aF ?aO ?aB ?aS ?aL ?_
                (case aP => exact k108_mkM _ _ _ (⟨(⟨(rd_T61 ac x128_3).f0, (rd_T61 ac x128_3).f1, (rd_T61 ac x128_3).f2⟩ : S61), (⟨(rd_T67 ab x128_3).f0, true⟩ : S67), (⟨t263, true⟩ : S67)⟩ : S108))
                (case aB => exact (zqJ HB.out an.out ao.out aY.out a6.out))
                (case aF => exact (fun _ _ => trivial))
                (case aO => exact (zqC aj.out))
                (case aS => exact (below_size (zqJ HB.out an.out ao.out aY.out a6.out)))
                (case aL => have := LMc189.out; omega)
                intro v266 w208 ho hb hg hat
                rw [← Ny265.out] at ho
                replace af := zA (blk_grown (g := ak) (o := .cells #[.slice aK aa.length ar, .slice aw ah.length au, .slice aE ae.length av] 28 (0, 0)) (zqB af.out) hg (Kd.R_ne aj.out af.out (by decide)))
                replace ag := zA (blk_grown (g := al) (o := .cells #[.slice ax ai.length ay, .slice (some ad264) ac.length az, .slice (some ad259) ab.length aA] 28 (0, 0)) (zqB ag.out) hg (Kd.R_ne aj.out ag.out (by decide)))
                replace aq := zA (blk_grown (g := aG) (o := .cells #[.int .i64 ((rd_T67 ab x128_3).f0), .bool true] 67 (0, 0)) (zqB aq.out) hg (Kd.R_ne aj.out aq.out (by decide)))
                replace aN := zA (blk_grown (g := aI) (o := .cells #[.int .i64 t263, .bool true] 67 (0, 0)) (zqB aN.out) hg (Kd.R_ne aj.out aN.out (by decide)))
                replace HB := zA (hb)
                have HO267 := zA (ho)
                clear aj ho hb hg hat
                refine hK.out _ _ ⟨(blk_cell ag.out 0).trans rfl, (blk_cell ag.out 1).trans rfl, (blk_cell ag.out 2).trans rfl, (blk_cell aq.out 0).trans rfl, (blk_cell aq.out 1).trans rfl, (blk_cell aN.out 0).trans rfl, (blk_cell aN.out 1).trans rfl, ((HB.out.cell (World.block_lt_of_cell? w _ hw264_0)).trans hw264_0), ((HB.out.cell (World.block_lt_of_cell? w _ hw264_1)).trans hw264_1), ((HB.out.cell (World.block_lt_of_cell? w _ hw264_2)).trans hw264_2)⟩ (fun hHeld => ?_)
                clear hK K
                refine normQ ?_
                refine pureQ 11 (some 6) HT_ ?_
                refine done_ (done_of HT_.out (by kernel_rfl)) ?_
                try go_wp2
                go_roundg k3
                case measure => have := HK1.out; have := HK2.out; have := HK3.out; omega
                case rel => exact ⟨(y265), (wrap64 (x128_3 + 1)), zqQ, H', ⟨by have := HK1.out; have := HK2.out; have := HK3.out; omega⟩, ⟨zqC HO267.out⟩, ⟨zqB af.out⟩, ⟨zqB ag.out⟩, ⟨zqJ HB.out an.out ao.out aY.out a6.out⟩⟩
               ·
                rw [if_neg c189] at H
                exact absurd H (by simp)
              ·
               rw [if_neg c188] at H
               exact absurd H (by simp)
             ·
              replace c186 := Bool.eq_false_iff.mpr c186
              subst c186
              have H1 : (if x128_3 < (ac.length : Int) then (if x6_3.length < 2513169434916 then (edit_meet.l2 k3 (x6_3 ++ [(⟨(⟨(rd_T61 ac x128_3).f0, (rd_T61 ac x128_3).f1, (rd_T61 ac x128_3).f2⟩ : S61), (⟨(rd_T67 ab x128_3).f0, false⟩ : S67), (⟨(rd_T67 ab x128_3).f0, false⟩ : S67)⟩ : S108)]) ab (ab.length : Int) (wrap64 (x128_3 + 1)) aa ah ae ai ac ab) else (none)) else (none)) = some (r1, r2) := by rw [if_neg (show ¬ (false = true) by decide)] at H; exact H
              clear H; have H := H1; clear H1
              by_cases c209 : x128_3 < (ac.length : Int)
              ·
               rw [if_pos c209] at H
               have c209b0 : decide (x128_3 < (ac.length : Int)) = true := decide_eq_true c209
               clear c209
               by_cases c210 : x6_3.length < 2513169434916
               ·
                rw [if_pos c210] at H
                have LMc210 := zA c210
                clear c210
                obtain ⟨y269, bY⟩ : ∃ y_ : List (S108), y_ = (x6_3 ++ [(⟨(⟨(rd_T61 ac x128_3).f0, (rd_T61 ac x128_3).f1, (rd_T61 ac x128_3).f2⟩ : S61), (⟨(rd_T67 ab x128_3).f0, false⟩ : S67), (⟨(rd_T67 ab x128_3).f0, false⟩ : S67)⟩ : S108)]) := ⟨_, rfl⟩
                replace H : (edit_meet.l2 k3 y269 ab (ab.length : Int) (wrap64 (x128_3 + 1)) aa ah ae ai ac ab) = some (r1, r2) := zqF bY H
                have Ny269 := zA bY
                clear bY
                have H' := zA H
                clear H
                have p259 : 0 ≤ (x128_3 : Int) := of_decide_eq_true (zqD)
                have q259 : x128_3 < (ab.length : Int) := of_decide_eq_true (zqD)
                obtain ⟨ad259, e259, hx259_0, hx259_1⟩ := at_T67 bp.out x128_3 p259 q259
                (try rw [← ce.out] at hx259_1)
                cases e259
                replace hx259_0 := (HB.out.cell (World.block_lt_of_cell? w _ hx259_0)).trans hx259_0
                replace hx259_1 := (HB.out.cell (World.block_lt_of_cell? w _ hx259_1)).trans hx259_1
                replace p259 := eq_true p259; replace q259 := eq_true q259
                try go_wp2_with (first | ((with_reducible refine gate_dst (N := 16) rfl ?_); refine box_event ?hg (N := 16) ?hd (cs := #[.int .i64 0, .bool false]) (t := 67) ?hr ?_; (case hd => rfl); (case hg => rfl); (case hr => first | (go_simp; done) | (go_simp; rfl)); intro aG hg w211 hbox hb; replace aj := zA (Kd.R_below (zqC aj.out) hb); have aq := zA (hbox); have cd := zA ((by rw [hg]; exact (below_size (zqH HB.out an.out ao.out)) : w.heap.size ≤ aG)); have aY := zA ((by rw [hg]; exact (below_size (zqH HB.out an.out ao.out)) : w.heap.size ≤ aG)); replace HB := zA (below_step (zqH HB.out an.out ao.out) hb); have a9 := zA ((by rw [hg]; exact Nat.ne_of_lt (blk_lt (g := ak) (o := .cells #[.slice aK aa.length ar, .slice aw ah.length au, .slice aE ae.length av] 28 (0, 0)) (zqB af.out)) : ak ≠ aG)); have bB := zA ((by rw [hg]; exact Nat.ne_of_gt (blk_lt (g := ak) (o := .cells #[.slice aK aa.length ar, .slice aw ah.length au, .slice aE ae.length av] 28 (0, 0)) (zqB af.out)) : aG ≠ ak)); replace af := zA (blk_below (g := ak) (o := .cells #[.slice aK aa.length ar, .slice aw ah.length au, .slice aE ae.length av] 28 (0, 0)) (zqB af.out) hb); have ba := zA ((by rw [hg]; exact Nat.ne_of_lt (blk_lt (g := al) (o := .cells #[.slice ax ai.length ay, .slice aD ac.length az, .slice (some ad259) ab.length aA] 28 (0, 0)) (zqB ag.out)) : al ≠ aG)); have bC := zA ((by rw [hg]; exact Nat.ne_of_gt (blk_lt (g := al) (o := .cells #[.slice ax ai.length ay, .slice aD ac.length az, .slice (some ad259) ab.length aA] 28 (0, 0)) (zqB ag.out)) : aG ≠ al)); replace ag := zA (blk_below (g := al) (o := .cells #[.slice ax ai.length ay, .slice aD ac.length az, .slice (some ad259) ab.length aA] 28 (0, 0)) (zqB ag.out) hb); clear hb hbox hg; have hnb212 := bB.out; have hnc212 := a9.out; have hnb213 := bC.out; have hnc213 := ba.out; have hcz214_0 : w211.cell? ⟨aG, 0, none⟩ = some (.int .i64 0) := (blk_cell aq.out 0).trans rfl; have hcz214_1 : w211.cell? ⟨aG, 1, none⟩ = some (.bool false) := (blk_cell aq.out 1).trans rfl; have hfz214_0 := blk_frozen aq.out 0; have hfz214_1 := blk_frozen aq.out 1) | ((with_reducible refine gate_callee (f := 71) rfl ?_); refine goesL_ (some 134) rfl rfl Try.func71 (by kernel_rfl) rfl #[.agg #[.int .i64 ((rd_T67 ab x128_3).f0), .bool false]] rfl zqE ?_; (with_reducible refine (edit_Origin_self.calls ((rd_T67 ab x128_3).f0) false false _ A178.out).mono ?_); rintro e w215 ⟨rfl, hb⟩; refine ⟨_, rfl, ?_⟩; replace aj := zA (Kd.R_below (by (with_reducible repeat (first | apply Kd.R_alloc | apply Kd.R_drewN | apply Kd.R_drew)); exact (Kd.R_mono (Kd.R_far (p := ⟨aG, 1, none⟩) (Kd.R_far (p := ⟨aG, 0, none⟩) (Kd.R_types aj.out aq.out (by decide)) (fun _ hk => hk.2) (.int .i64 ((rd_T67 ab x128_3).f0))) (fun _ hk => hk.2) (.bool false)) (fun _ h_ => h_.1))) hb); replace af := zA (blk_below (g := ak) (o := .cells #[.slice aK aa.length ar, .slice aw ah.length au, .slice aE ae.length av] 28 (0, 0)) (by (with_reducible repeat (first | refine blk_drewN ?_ _ | refine blk_drew ?_ | refine blk_alloc ?_ _)); refine blk_far ?_ a9.out _; (with_reducible repeat (first | refine blk_drewN ?_ _ | refine blk_drew ?_ | refine blk_alloc ?_ _)); refine blk_far ?_ a9.out _; (with_reducible repeat (first | refine blk_drewN ?_ _ | refine blk_drew ?_ | refine blk_alloc ?_ _)); exact af.out) hb); replace ag := zA (blk_below (g := al) (o := .cells #[.slice ax ai.length ay, .slice aD ac.length az, .slice (some ad259) ab.length aA] 28 (0, 0)) (by (with_reducible repeat (first | refine blk_drewN ?_ _ | refine blk_drew ?_ | refine blk_alloc ?_ _)); refine blk_far ?_ ba.out _; (with_reducible repeat (first | refine blk_drewN ?_ _ | refine blk_drew ?_ | refine blk_alloc ?_ _)); refine blk_far ?_ ba.out _; (with_reducible repeat (first | refine blk_drewN ?_ _ | refine blk_drew ?_ | refine blk_alloc ?_ _)); exact ag.out) hb); replace aq := zA (blk_below (g := aG) (o := .cells #[.int .i64 ((rd_T67 ab x128_3).f0), .bool false] 67 (0, 0)) (by (with_reducible repeat (first | refine blk_drewN ?_ _ | refine blk_drew ?_ | refine blk_alloc ?_ _)); refine blk_put (cs := #[.int .i64 ((rd_T67 ab x128_3).f0), .bool false]) ?_ 1 _ rfl; (with_reducible repeat (first | refine blk_drewN ?_ _ | refine blk_drew ?_ | refine blk_alloc ?_ _)); refine blk_put (cs := #[.int .i64 0, .bool false]) ?_ 0 _ rfl; (with_reducible repeat (first | refine blk_drewN ?_ _ | refine blk_drew ?_ | refine blk_alloc ?_ _)); exact aq.out) hb); replace HB := zA (below_step (zqI HB.out an.out ao.out aY.out) hb); (try clear hb); (try clear hb2); (try clear hk); (try clear hi); have hcz216_0 : w215.cell? ⟨aG, 0, none⟩ = some (.int .i64 ((rd_T67 ab x128_3).f0)) := (blk_cell aq.out 0).trans rfl; have hcz216_1 : w215.cell? ⟨aG, 1, none⟩ = some (.bool false) := (blk_cell aq.out 1).trans rfl; have hfz216_0 := blk_frozen aq.out 0; have hfz216_1 := blk_frozen aq.out 1) | ((with_reducible refine gate_dst (N := 17) rfl ?_); refine box_event ?hg (N := 17) ?hd (cs := #[.int .i64 0, .bool false]) (t := 67) ?hr ?_; (case hd => rfl); (case hg => rfl); (case hr => first | (go_simp; done) | (go_simp; rfl)); intro aI hg w217 hbox hb; replace aj := zA (Kd.R_below (zqC aj.out) hb); have aN := zA (hbox); have GW262 := zA ((by rw [hg]; exact (below_size (zqI HB.out an.out ao.out aY.out)) : w.heap.size ≤ aI)); have a6 := zA ((by rw [hg]; exact (below_size (zqI HB.out an.out ao.out aY.out)) : w.heap.size ≤ aI)); replace HB := zA (below_step (zqI HB.out an.out ao.out aY.out) hb); have bl := zA ((by rw [hg]; exact Nat.ne_of_lt (blk_lt (g := ak) (o := .cells #[.slice aK aa.length ar, .slice aw ah.length au, .slice aE ae.length av] 28 (0, 0)) (zqB af.out)) : ak ≠ aI)); have bV := zA ((by rw [hg]; exact Nat.ne_of_gt (blk_lt (g := ak) (o := .cells #[.slice aK aa.length ar, .slice aw ah.length au, .slice aE ae.length av] 28 (0, 0)) (zqB af.out)) : aI ≠ ak)); replace af := zA (blk_below (g := ak) (o := .cells #[.slice aK aa.length ar, .slice aw ah.length au, .slice aE ae.length av] 28 (0, 0)) (zqB af.out) hb); have bm := zA ((by rw [hg]; exact Nat.ne_of_lt (blk_lt (g := al) (o := .cells #[.slice ax ai.length ay, .slice aD ac.length az, .slice (some ad259) ab.length aA] 28 (0, 0)) (zqB ag.out)) : al ≠ aI)); have bW := zA ((by rw [hg]; exact Nat.ne_of_gt (blk_lt (g := al) (o := .cells #[.slice ax ai.length ay, .slice aD ac.length az, .slice (some ad259) ab.length aA] 28 (0, 0)) (zqB ag.out)) : aI ≠ al)); replace ag := zA (blk_below (g := al) (o := .cells #[.slice ax ai.length ay, .slice aD ac.length az, .slice (some ad259) ab.length aA] 28 (0, 0)) (zqB ag.out) hb); have bn := zA ((by rw [hg]; exact Nat.ne_of_lt (blk_lt (g := aG) (o := .cells #[.int .i64 ((rd_T67 ab x128_3).f0), .bool false] 67 (0, 0)) (zqB aq.out)) : aG ≠ aI)); have bX := zA ((by rw [hg]; exact Nat.ne_of_gt (blk_lt (g := aG) (o := .cells #[.int .i64 ((rd_T67 ab x128_3).f0), .bool false] 67 (0, 0)) (zqB aq.out)) : aI ≠ aG)); replace aq := zA (blk_below (g := aG) (o := .cells #[.int .i64 ((rd_T67 ab x128_3).f0), .bool false] 67 (0, 0)) (zqB aq.out) hb); clear hb hbox hg; have hnb218 := bV.out; have hnc218 := bl.out; have hnb219 := bW.out; have hnc219 := bm.out; have hnb220 := bX.out; have hnc220 := bn.out; have hcz221_0 : w217.cell? ⟨aI, 0, none⟩ = some (.int .i64 0) := (blk_cell aN.out 0).trans rfl; have hcz221_1 : w217.cell? ⟨aI, 1, none⟩ = some (.bool false) := (blk_cell aN.out 1).trans rfl; have hfz221_0 := blk_frozen aN.out 0; have hfz221_1 := blk_frozen aN.out 1; have hcz222_0 : w217.cell? ⟨aG, 0, none⟩ = some (.int .i64 ((rd_T67 ab x128_3).f0)) := (blk_cell aq.out 0).trans rfl; have hcz222_1 : w217.cell? ⟨aG, 1, none⟩ = some (.bool false) := (blk_cell aq.out 1).trans rfl; have hfz222_0 := blk_frozen aq.out 0; have hfz222_1 := blk_frozen aq.out 1))
                have n0_ : Aside0 (Kd.R k108 108 ((w217.setCell ⟨aI, 0, none⟩ (.int .i64 ((rd_T67 ab x128_3).f0))).setCell ⟨aI, 1, none⟩ (.bool false)) w.heap.size (fun _ => True) u6 x6_3) := ⟨by (with_reducible repeat (first | apply Kd.R_alloc | apply Kd.R_drewN | apply Kd.R_drew)); exact Kd.R_mono (Kd.R_far (p := ⟨aI, 1, none⟩) (Kd.R_far (p := ⟨aI, 0, none⟩) (Kd.R_types aj.out aN.out (by decide)) (fun _ hk => hk.2) (.int .i64 ((rd_T67 ab x128_3).f0))) (fun _ hk => hk.2) (.bool false)) (fun _ hk => trivial)⟩
                have n1_ : Aside0 (((w217.setCell ⟨aI, 0, none⟩ (.int .i64 ((rd_T67 ab x128_3).f0))).setCell ⟨aI, 1, none⟩ (.bool false)).heap[ak]? = some (.cells #[.slice aK aa.length ar, .slice aw ah.length au, .slice aE ae.length av] 28 (0, 0))) := ⟨by (with_reducible repeat (first | refine blk_drewN ?_ _ | refine blk_drew ?_ | refine blk_alloc ?_ _)); refine blk_far ?_ bl.out _; (with_reducible repeat (first | refine blk_drewN ?_ _ | refine blk_drew ?_ | refine blk_alloc ?_ _)); refine blk_far ?_ bl.out _; (with_reducible repeat (first | refine blk_drewN ?_ _ | refine blk_drew ?_ | refine blk_alloc ?_ _)); exact af.out⟩
                have n2_ : Aside0 (((w217.setCell ⟨aI, 0, none⟩ (.int .i64 ((rd_T67 ab x128_3).f0))).setCell ⟨aI, 1, none⟩ (.bool false)).heap[al]? = some (.cells #[.slice ax ai.length ay, .slice aD ac.length az, .slice (some ad259) ab.length aA] 28 (0, 0))) := ⟨by (with_reducible repeat (first | refine blk_drewN ?_ _ | refine blk_drew ?_ | refine blk_alloc ?_ _)); refine blk_far ?_ bm.out _; (with_reducible repeat (first | refine blk_drewN ?_ _ | refine blk_drew ?_ | refine blk_alloc ?_ _)); refine blk_far ?_ bm.out _; (with_reducible repeat (first | refine blk_drewN ?_ _ | refine blk_drew ?_ | refine blk_alloc ?_ _)); exact ag.out⟩
                have n3_ : Aside0 (((w217.setCell ⟨aI, 0, none⟩ (.int .i64 ((rd_T67 ab x128_3).f0))).setCell ⟨aI, 1, none⟩ (.bool false)).heap[aG]? = some (.cells #[.int .i64 ((rd_T67 ab x128_3).f0), .bool false] 67 (0, 0))) := ⟨by (with_reducible repeat (first | refine blk_drewN ?_ _ | refine blk_drew ?_ | refine blk_alloc ?_ _)); refine blk_far ?_ bn.out _; (with_reducible repeat (first | refine blk_drewN ?_ _ | refine blk_drew ?_ | refine blk_alloc ?_ _)); refine blk_far ?_ bn.out _; (with_reducible repeat (first | refine blk_drewN ?_ _ | refine blk_drew ?_ | refine blk_alloc ?_ _)); exact aq.out⟩
                have n4_ : Aside0 (((w217.setCell ⟨aI, 0, none⟩ (.int .i64 ((rd_T67 ab x128_3).f0))).setCell ⟨aI, 1, none⟩ (.bool false)).heap[aI]? = some (.cells #[.int .i64 ((rd_T67 ab x128_3).f0), .bool false] 67 (0, 0))) := ⟨by (with_reducible repeat (first | refine blk_drewN ?_ _ | refine blk_drew ?_ | refine blk_alloc ?_ _)); refine blk_put (cs := #[.int .i64 ((rd_T67 ab x128_3).f0), .bool false]) ?_ 1 _ rfl; (with_reducible repeat (first | refine blk_drewN ?_ _ | refine blk_drew ?_ | refine blk_alloc ?_ _)); refine blk_put (cs := #[.int .i64 0, .bool false]) ?_ 0 _ rfl; (with_reducible repeat (first | refine blk_drewN ?_ _ | refine blk_drew ?_ | refine blk_alloc ?_ _)); exact aN.out⟩
                have n5_ : Aside0 (Below w.heap.size w ((w217.setCell ⟨aI, 0, none⟩ (.int .i64 ((rd_T67 ab x128_3).f0))).setCell ⟨aI, 1, none⟩ (.bool false))) := ⟨zqJ HB.out an.out ao.out aY.out a6.out⟩
                generalize ((w217.setCell ⟨aI, 0, none⟩ (.int .i64 ((rd_T67 ab x128_3).f0))).setCell ⟨aI, 1, none⟩ (.bool false)) = w223 at n0_ n1_ n2_ n3_ n4_ n5_ ⊢; have aj := n0_; have af := n1_; have ag := n2_; have aq := n3_; have aN := n4_; have HB := n5_; clear n0_ n1_ n2_ n3_ n4_ n5_
                replace aj := zA (Kd.R_drew aj.out)
                replace af := zA (blk_drew af.out)
                replace ag := zA (blk_drew ag.out)
                replace aq := zA (blk_drew aq.out)
                replace aN := zA (blk_drew aN.out)
                replace HB := zA (below_drew1 HB.out)
                have p268 : 0 ≤ (x128_3 : Int) := of_decide_eq_true (zqD)
                have q268 : x128_3 < (ac.length : Int) := of_decide_eq_true (zqD)
                obtain ⟨ad268, e268, hx268_0, hx268_1, hx268_2⟩ := at_T61 bo.out x128_3 p268 q268
                have hw268_2 := hx268_2; have hw268_1 := hx268_1; have hw268_0 := hx268_0; cases e268
                replace hx268_0 := (HB.out.cell (World.block_lt_of_cell? w _ hx268_0)).trans hx268_0
                replace hx268_1 := (HB.out.cell (World.block_lt_of_cell? w _ hx268_1)).trans hx268_1
                replace hx268_2 := (HB.out.cell (World.block_lt_of_cell? w _ hx268_2)).trans hx268_2
                replace p268 := eq_true p268; replace q268 := eq_true q268
                refine start_ (n := 12) (S := fun w' => w'.cell? ⟨al, 0, none⟩ = some (.slice ax ai.length ay) ∧ w'.cell? ⟨al, 1, none⟩ = some (.slice (some ad268) ac.length az) ∧ w'.cell? ⟨al, 2, none⟩ = some (.slice (some ad259) ab.length aA) ∧ w'.cell? ⟨aG, 0, none⟩ = some (.int .i64 ((rd_T67 ab x128_3).f0)) ∧ w'.cell? ⟨aG, 1, none⟩ = some (.bool false) ∧ w'.cell? ⟨aI, 0, none⟩ = some (.int .i64 ((rd_T67 ab x128_3).f0)) ∧ w'.cell? ⟨aI, 1, none⟩ = some (.bool false) ∧ w'.cell? (ad268.add ((x128_3).toNat * 3)) = some (.int .i64 ((rd_T61 ac x128_3).f0)) ∧ w'.cell? ⟨(ad268.add ((x128_3).toNat * 3)).block, (ad268.add ((x128_3).toNat * 3)).off + 1, none⟩ = some (.int .i64 ((rd_T61 ac x128_3).f1)) ∧ w'.cell? ⟨(ad268.add ((x128_3).toNat * 3)).block, (ad268.add ((x128_3).toNat * 3)).off + 2, none⟩ = some (.int .i64 ((rd_T61 ac x128_3).f2))) (ds := []) #[false, false, false, false, false, false, false, false, false, false, false, false] (by kernel_rfl) rfl rfl ⟨(blk_cell ag.out 0).trans rfl, (blk_cell ag.out 1).trans rfl, (blk_cell ag.out 2).trans rfl, (blk_cell aq.out 0).trans rfl, (blk_cell aq.out 1).trans rfl, (blk_cell aN.out 0).trans rfl, (blk_cell aN.out 1).trans rfl, ((HB.out.cell (World.block_lt_of_cell? w _ hw268_0)).trans hw268_0), ((HB.out.cell (World.block_lt_of_cell? w _ hw268_1)).trans hw268_1), ((HB.out.cell (World.block_lt_of_cell? w _ hw268_2)).trans hw268_2)⟩ (fun hHeld => ?_); refine with_tabW edit_meet.tab33 edit_meet.bits33 (fun HT_ HW_ => ?_)
                generalize w223.drew = w224 at aj af ag aq aN HB hx268_0 hx268_1 hx268_2 hHeld ⊢
                refine pureQ 0 (some 144) HT_ ?_
                refine pureQ 1 (some 145) HT_ ?_
                refine pureQ 3 (some 147) HT_ ?_
                refine takeQ (v := ?_) (a' := ?_) 2 (some 146) HT_ HW_ hHeld ?_ ?_ ?_
                rotate_left
                ·
                 rintro w' ⟨s0, s1, s2, s3, s4, s5, s6, s7, s8, s9⟩
                 go_simp
                 with_reducible rfl
                rotate_left
                ·
                 exact putQ
                refine pureQ 4 (some 148) HT_ ?_
                refine takeQ (v := ?_) (a' := ?_) 5 (some 149) HT_ HW_ hHeld ?_ ?_ ?_
                rotate_left
                ·
                 rintro w' ⟨s0, s1, s2, s3, s4, s5, s6, s7, s8, s9⟩
                 go_simp
                 with_reducible rfl
                rotate_left
                ·
                 exact putQ
                refine takeQ (v := ?_) (a' := ?_) 6 (some 150) HT_ HW_ hHeld ?_ ?_ ?_
                rotate_left
                ·
                 rintro w' ⟨s0, s1, s2, s3, s4, s5, s6, s7, s8, s9⟩
                 go_simp
                 with_reducible rfl
                rotate_left
                ·
                 exact putQ
                refine takeQ (v := ?_) (a' := ?_) 7 (some 151) HT_ HW_ hHeld ?_ ?_ ?_
                rotate_left
                ·
                 rintro w' ⟨s0, s1, s2, s3, s4, s5, s6, s7, s8, s9⟩
                 go_simp
                 with_reducible rfl
                rotate_left
                ·
                 exact putQ
                refine pureQ 8 (some 152) HT_ ?_
                refine one_ (i := 9) (N := some 153) #[true, true, true, true, true, true, true, true, true, true, false, false] rfl rfl (one_of HT_.out (by kernel_rfl)) (by decide) (fun K hK => ?_)
                refine value_ (w1 := ?_) (v := ?_) (by rfl) rfl ?_ ?_
                rotate_left 2
                ·
                 go_simp
                 constructor
                 ·
                  rfl
                 ·
                  rfl
                refine hK.out _ _ ⟨(blk_cell (blk_alloc ag.out _) 0).trans rfl, (blk_cell (blk_alloc ag.out _) 1).trans rfl, (blk_cell (blk_alloc ag.out _) 2).trans rfl, (blk_cell (blk_alloc aq.out _) 0).trans rfl, (blk_cell (blk_alloc aq.out _) 1).trans rfl, (blk_cell (blk_alloc aN.out _) 0).trans rfl, (blk_cell (blk_alloc aN.out _) 1).trans rfl, (World.cell?_alloc_lt _ _ _ (World.block_lt_of_cell? _ _ (((HB.out.cell (World.block_lt_of_cell? w _ hw268_0)).trans hw268_0)))).trans (((HB.out.cell (World.block_lt_of_cell? w _ hw268_0)).trans hw268_0)), (World.cell?_alloc_lt _ _ _ (World.block_lt_of_cell? _ _ (((HB.out.cell (World.block_lt_of_cell? w _ hw268_1)).trans hw268_1)))).trans (((HB.out.cell (World.block_lt_of_cell? w _ hw268_1)).trans hw268_1)), (World.cell?_alloc_lt _ _ _ (World.block_lt_of_cell? _ _ (((HB.out.cell (World.block_lt_of_cell? w _ hw268_2)).trans hw268_2)))).trans (((HB.out.cell (World.block_lt_of_cell? w _ hw268_2)).trans hw268_2))⟩ (fun hHeld => ?_)
                clear hK K
                refine normQ ?_
                refine one_ (i := 10) (N := some 154) #[true, true, true, true, true, true, true, true, true, true, true, false] rfl rfl (one_of HT_.out (by kernel_rfl)) (by decide) (fun K hK => ?_)
                refine Kd.R_append_step k108 (w0 := w) w.heap.size (by rfl) (.tmp 144) (.tmp 153) 104 108 (.agg #[(.int .i64 0), (.int .i64 0), (.int .i64 0), (.int .i64 0), (.bool false), (.int .i64 0), (.bool false)]) 56 rfl Try.underlying104 info108 rfl (by decide) (by omega) u6 x6_3 (⟨(⟨(rd_T61 ac x128_3).f0, (rd_T61 ac x128_3).f1, (rd_T61 ac x128_3).f2⟩ : S61), (⟨(rd_T67 ab x128_3).f0, false⟩ : S67), (⟨(rd_T67 ab x128_3).f0, false⟩ : S67)⟩ : S108) [.int .i64 ((rd_T61 ac x128_3).f0), .int .i64 ((rd_T61 ac x128_3).f1), .int .i64 ((rd_T61 ac x128_3).f2), .int .i64 ((rd_T67 ab x128_3).f0), .bool false, .int .i64 ((rd_T67 ab x128_3).f0), .bool false] (fun _ => True) (fun _ => False) rfl rfl ?aP (fun _ hk => hk.elim) ?aF ?aO ?aB ?aS ?aL ?_
                (case aP => exact k108_mkM _ _ _ (⟨(⟨(rd_T61 ac x128_3).f0, (rd_T61 ac x128_3).f1, (rd_T61 ac x128_3).f2⟩ : S61), (⟨(rd_T67 ab x128_3).f0, false⟩ : S67), (⟨(rd_T67 ab x128_3).f0, false⟩ : S67)⟩ : S108))
                (case aB => exact (zqJ HB.out an.out ao.out aY.out a6.out))
                (case aF => exact (fun _ _ => trivial))
                (case aO => exact (zqC aj.out))
                (case aS => exact (below_size (zqJ HB.out an.out ao.out aY.out a6.out)))
                (case aL => have := LMc210.out; omega)
                intro v270 w225 ho hb hg hat
                rw [← Ny269.out] at ho
                replace af := zA (blk_grown (g := ak) (o := .cells #[.slice aK aa.length ar, .slice aw ah.length au, .slice aE ae.length av] 28 (0, 0)) (zqB af.out) hg (Kd.R_ne aj.out af.out (by decide)))
                replace ag := zA (blk_grown (g := al) (o := .cells #[.slice ax ai.length ay, .slice (some ad268) ac.length az, .slice (some ad259) ab.length aA] 28 (0, 0)) (zqB ag.out) hg (Kd.R_ne aj.out ag.out (by decide)))
                replace aq := zA (blk_grown (g := aG) (o := .cells #[.int .i64 ((rd_T67 ab x128_3).f0), .bool false] 67 (0, 0)) (zqB aq.out) hg (Kd.R_ne aj.out aq.out (by decide)))
                replace aN := zA (blk_grown (g := aI) (o := .cells #[.int .i64 ((rd_T67 ab x128_3).f0), .bool false] 67 (0, 0)) (zqB aN.out) hg (Kd.R_ne aj.out aN.out (by decide)))
                replace HB := zA (hb)
                have HO271 := zA (ho)
                clear aj ho hb hg hat
                refine hK.out _ _ ⟨(blk_cell ag.out 0).trans rfl, (blk_cell ag.out 1).trans rfl, (blk_cell ag.out 2).trans rfl, (blk_cell aq.out 0).trans rfl, (blk_cell aq.out 1).trans rfl, (blk_cell aN.out 0).trans rfl, (blk_cell aN.out 1).trans rfl, ((HB.out.cell (World.block_lt_of_cell? w _ hw268_0)).trans hw268_0), ((HB.out.cell (World.block_lt_of_cell? w _ hw268_1)).trans hw268_1), ((HB.out.cell (World.block_lt_of_cell? w _ hw268_2)).trans hw268_2)⟩ (fun hHeld => ?_)
                clear hK K
                refine normQ ?_
                refine pureQ 11 (some 6) HT_ ?_
                refine done_ (done_of HT_.out (by kernel_rfl)) ?_
                try go_wp2
                go_roundg k3
                case measure => have := HK1.out; have := HK2.out; have := HK3.out; omega
                case rel => exact ⟨(y269), (wrap64 (x128_3 + 1)), zqQ, H', ⟨by have := HK1.out; have := HK2.out; have := HK3.out; omega⟩, ⟨zqC HO271.out⟩, ⟨zqB af.out⟩, ⟨zqB ag.out⟩, ⟨zqJ HB.out an.out ao.out aY.out a6.out⟩⟩
               ·
                rw [if_neg c210] at H
                exact absurd H (by simp)
              ·
               rw [if_neg c209] at H
               exact absurd H (by simp)
           ·
            rw [if_neg c177] at H
            exact absurd H (by simp)
          ·
           rw [if_neg c176] at H
           exact absurd H (by simp)
         ·
          rw [if_neg c175] at H
          have c175b0 : decide (x128_3 < (ab.length : Int)) = false := decide_eq_false c175
          clear c175
          have HH := zA (show meetE x6_3 = some (r1, r2) from H)
          clear H
          have hmm := @run_makeMap Try.prog
          go_upto_region 36 with (fail)
          obtain ⟨gm, hgm⟩ : ∃ g_ : Nat, g_ = wr.heap.size := ⟨_, rfl⟩
          have HM0 : Aside0 (HasM (wr.alloc (.map #[] 0)) ekP (fun b : Bool => Value.bool b) gm []) := ⟨by rw [hgm]; exact HasM.made wr _ _⟩
          have n1_ := zA (below_alloc HB.out (.map #[] 0))
          have n2_ : Aside0 (Kd.R k108 108 (wr.alloc (.map #[] 0)) w.heap.size (fun k_ => k_ ≠ gm) u6 x6_3) := ⟨Kd.R_alloc (Kd.R_mono (Kd.R_bound aj.out) (fun k_ hk_ => by have := hk_.2.2.1; omega)) _⟩
          have GM : Aside0 (w.heap.size ≤ gm) := ⟨by rw [hgm]; exact HB.out.size⟩
          rw [← hgm]
          clear hgm HB aj hmm; generalize wr.alloc (.map #[] 0) = W0 at HM0 n1_ n2_ ⊢; have HB := n1_; have HO := n2_; clear n1_ n2_
          obtain ⟨A6, c6, hv6⟩ := Kd.R_slice HO.out
          subst hv6
          have hl6 : x6_3.length ≤ 9223372036854775807 := (Kd.R_reads' HO.out).2.2.2.1
          have HL6 := zA hl6
          clear hl6
          go_wp2
          have HI0 : Aside0 (∀ a, (getM ([] : List ((Int × Int) × Bool)) a).getD false = decide (a ∈ (x6_3.take 0).map plc)) := ⟨fun a => by simp [getM]⟩
          have HN0 : Aside0 (((x6_3.take 0).map plc).Nodup) := ⟨by simp⟩
          go_loopg [159] x6_3.length (fun kq v159 w' => ∃ (k : Nat) (M : List ((Int × Int) × Bool)), v159 = .int .i64 k ∧ k ≤ x6_3.length ∧ x6_3.length - k ≤ kq ∧ Aside0 (HasM w' ekP (fun b : Bool => Value.bool b) gm M) ∧ Aside0 (∀ a, (getM M a).getD false = decide (a ∈ (x6_3.take k).map plc)) ∧ Aside0 (((x6_3.take k).map plc).Nodup) ∧ Aside0 (Kd.R k108 108 w' w.heap.size (fun k_ => k_ ≠ gm) (.slice A6 x6_3.length c6) x6_3) ∧ Aside0 (Below w.heap.size w w'))
          case atStart => exact ⟨0, [], rfl, Nat.zero_le _, by omega, HM0, HI0, HN0, HO, HB⟩
          case round =>
           clear HM0 HI0 HN0 HO HB
           obtain ⟨kk, M, rfl, hk, hkx, HM, HI, HN, HO, HB⟩ := hrel
           by_cases q : kk < x6_3.length
           ·
            have HQ := zA q
            have HKX := zA hkx
            have qz : (kk : Int) < (x6_3.length : Int) := by omega
            obtain ⟨g1, rfl⟩ : ∃ g_, gk = g_ + 1 := ⟨gk - 1, by omega⟩
            have hC := (Kd.R_reads' HO.out).2.2
            obtain ⟨ad, e, h0, h1, h2, h3, h4, h5, h6⟩ := at_T108 hC (kk : Int) (by omega) qz
            clear hC; subst e
            rw [Int.toNat_natCast] at h0 h1 h2 h3 h4 h5 h6
            have htk := take_plc q
            obtain ⟨y, hy⟩ : ∃ y_ : S108, y_ = rd_T108 x6_3 (kk : Int) := ⟨_, rfl⟩
            rw [← hy] at h0 h1 h2 h3 h4 h5 h6 htk
            clear hy
            obtain ⟨⟨a0, a1, a2⟩, ⟨b0, b1⟩, ⟨e0, e1⟩⟩ := y
            have HTK : Aside0 ((x6_3.take (kk + 1)).map plc = (x6_3.take kk).map plc ++ [(a0, a1)]) := ⟨htk⟩
            clear htk
            replace h0 : wr.cell? _ = some (.int .i64 a0) := h0
            replace h1 : wr.cell? _ = some (.int .i64 a1) := h1
            replace h2 : wr.cell? _ = some (.int .i64 a2) := h2
            replace h3 : wr.cell? _ = some (.int .i64 b0) := h3
            replace h4 : wr.cell? _ = some (.bool b1) := h4
            replace h5 : wr.cell? _ = some (.int .i64 e0) := h5
            replace h6 : wr.cell? _ = some (.bool e1) := h6
            go_upto_region 39 with (first | ((with_reducible refine gate_dst (N := 20) rfl ?_); refine box_event ?hg (N := 20) ?hd (cs := #[.int .i64 0, .int .i64 0, .int .i64 0, .int .i64 0, .bool false, .int .i64 0, .bool false]) (t := 108) ?hr ?_; (case hd => rfl); (case hg => rfl); (case hr => first | (go_simp; done) | (go_simp; rfl)); intro g20 hg w20 hbox hb; have l0 := World.block_lt_of_cell? _ _ h0; replace h0 := (hb.cell l0).trans h0; clear l0; have l1 := World.block_lt_of_cell? _ _ h1; replace h1 := (hb.cell l1).trans h1; clear l1; have l2 := World.block_lt_of_cell? _ _ h2; replace h2 := (hb.cell l2).trans h2; clear l2; have l3 := World.block_lt_of_cell? _ _ h3; replace h3 := (hb.cell l3).trans h3; clear l3; have l4 := World.block_lt_of_cell? _ _ h4; replace h4 := (hb.cell l4).trans h4; clear l4; have l5 := World.block_lt_of_cell? _ _ h5; replace h5 := (hb.cell l5).trans h5; clear l5; have l6 := World.block_lt_of_cell? _ _ h6; replace h6 := (hb.cell l6).trans h6; clear l6; have NM : Aside0 (gm ≠ g20) := ⟨by have := HM.out.lt; omega⟩; have GE : Aside0 (w.heap.size ≤ g20) := ⟨by rw [hg]; exact HB.out.size⟩; have n0_ := zA (below_step HB.out hb); have n2_ : Aside0 (Kd.R k108 108 w20 w.heap.size (fun k_ => k_ ≠ gm ∧ k_ ≠ g20) _ x6_3) := ⟨Kd.R_below (Kd.R_mono (Kd.R_bound HO.out) (fun k_ hk_ => ⟨hk_.1, by have := hk_.2.2.1; omega⟩)) hb⟩; have n3_ := zA (HM.out.same (hb.block gm HM.out.lt)); have aQ := zA hbox; clear HB HO HM hb hbox hg; have HB := n0_; have HO := n2_; have HM := n3_; clear n0_ n2_ n3_; have t0 : w20.cell? ⟨g20, 0, none⟩ = some (.int .i64 0) := (blk_cell aQ.out 0).trans rfl; have t1 : w20.cell? ⟨g20, 1, none⟩ = some (.int .i64 0) := (blk_cell aQ.out 1).trans rfl; have t2 : w20.cell? ⟨g20, 2, none⟩ = some (.int .i64 0) := (blk_cell aQ.out 2).trans rfl; have t3 : w20.cell? ⟨g20, 3, none⟩ = some (.int .i64 0) := (blk_cell aQ.out 3).trans rfl; have t4 : w20.cell? ⟨g20, 4, none⟩ = some (.bool false) := (blk_cell aQ.out 4).trans rfl; have t5 : w20.cell? ⟨g20, 5, none⟩ = some (.int .i64 0) := (blk_cell aQ.out 5).trans rfl; have t6 : w20.cell? ⟨g20, 6, none⟩ = some (.bool false) := (blk_cell aQ.out 6).trans rfl; have tf0 := blk_frozen aQ.out 0; have tf1 := blk_frozen aQ.out 1; have tf2 := blk_frozen aQ.out 2; have tf3 := blk_frozen aQ.out 3; have tf4 := blk_frozen aQ.out 4; have tf5 := blk_frozen aQ.out 5; have tf6 := blk_frozen aQ.out 6))
            clear h0 h1 h2 h3 h4 h5 h6 t0 tf0 t1 tf1 t2 tf2 t3 tf3 t4 tf4 t5 tf5 t6 tf6
            have n0_ : Aside0 (((World.setCell (World.setCell (World.setCell (World.setCell (World.setCell (World.setCell (World.setCell w20 ⟨g20, 0, none⟩ (.int .i64 a0)) ⟨g20, 1, none⟩ (.int .i64 a1)) ⟨g20, 2, none⟩ (.int .i64 a2)) ⟨g20, 3, none⟩ (.int .i64 b0)) ⟨g20, 4, none⟩ (.bool b1)) ⟨g20, 5, none⟩ (.int .i64 e0)) ⟨g20, 6, none⟩ (.bool e1))).heap[g20]? = some (.cells #[.int .i64 a0, .int .i64 a1, .int .i64 a2, .int .i64 b0, .bool b1, .int .i64 e0, .bool e1] 108 (0, 0))) := ⟨(blk_put (cs := #[.int .i64 a0, .int .i64 a1, .int .i64 a2, .int .i64 b0, .bool b1, .int .i64 e0, .bool false]) (blk_put (cs := #[.int .i64 a0, .int .i64 a1, .int .i64 a2, .int .i64 b0, .bool b1, .int .i64 0, .bool false]) (blk_put (cs := #[.int .i64 a0, .int .i64 a1, .int .i64 a2, .int .i64 b0, .bool false, .int .i64 0, .bool false]) (blk_put (cs := #[.int .i64 a0, .int .i64 a1, .int .i64 a2, .int .i64 0, .bool false, .int .i64 0, .bool false]) (blk_put (cs := #[.int .i64 a0, .int .i64 a1, .int .i64 0, .int .i64 0, .bool false, .int .i64 0, .bool false]) (blk_put (cs := #[.int .i64 a0, .int .i64 0, .int .i64 0, .int .i64 0, .bool false, .int .i64 0, .bool false]) (blk_put (cs := #[.int .i64 0, .int .i64 0, .int .i64 0, .int .i64 0, .bool false, .int .i64 0, .bool false]) aQ.out 0 (.int .i64 a0) rfl) 1 (.int .i64 a1) rfl) 2 (.int .i64 a2) rfl) 3 (.int .i64 b0) rfl) 4 (.bool b1) rfl) 5 (.int .i64 e0) rfl) 6 (.bool e1) rfl)⟩
            have n1_ : Aside0 (Below w.heap.size w (World.setCell (World.setCell (World.setCell (World.setCell (World.setCell (World.setCell (World.setCell w20 ⟨g20, 0, none⟩ (.int .i64 a0)) ⟨g20, 1, none⟩ (.int .i64 a1)) ⟨g20, 2, none⟩ (.int .i64 a2)) ⟨g20, 3, none⟩ (.int .i64 b0)) ⟨g20, 4, none⟩ (.bool b1)) ⟨g20, 5, none⟩ (.int .i64 e0)) ⟨g20, 6, none⟩ (.bool e1))) := ⟨(below_set (below_set (below_set (below_set (below_set (below_set (below_set HB.out GE.out) GE.out) GE.out) GE.out) GE.out) GE.out) GE.out)⟩
            have n3_ : Aside0 (Kd.R k108 108 (World.setCell (World.setCell (World.setCell (World.setCell (World.setCell (World.setCell (World.setCell w20 ⟨g20, 0, none⟩ (.int .i64 a0)) ⟨g20, 1, none⟩ (.int .i64 a1)) ⟨g20, 2, none⟩ (.int .i64 a2)) ⟨g20, 3, none⟩ (.int .i64 b0)) ⟨g20, 4, none⟩ (.bool b1)) ⟨g20, 5, none⟩ (.int .i64 e0)) ⟨g20, 6, none⟩ (.bool e1)) w.heap.size (fun k_ => k_ ≠ gm) (.slice (some ad) x6_3.length c6) x6_3) := ⟨Kd.R_mono (Kd.R_far (p := ⟨g20, 6, none⟩) (Kd.R_far (p := ⟨g20, 5, none⟩) (Kd.R_far (p := ⟨g20, 4, none⟩) (Kd.R_far (p := ⟨g20, 3, none⟩) (Kd.R_far (p := ⟨g20, 2, none⟩) (Kd.R_far (p := ⟨g20, 1, none⟩) (Kd.R_far (p := ⟨g20, 0, none⟩) HO.out (fun k_ hk_ => hk_.2) (.int .i64 a0)) (fun k_ hk_ => hk_.2) (.int .i64 a1)) (fun k_ hk_ => hk_.2) (.int .i64 a2)) (fun k_ hk_ => hk_.2) (.int .i64 b0)) (fun k_ hk_ => hk_.2) (.bool b1)) (fun k_ hk_ => hk_.2) (.int .i64 e0)) (fun k_ hk_ => hk_.2) (.bool e1)) (fun k_ hk_ => hk_.1)⟩
            have n4_ := zA ((HasM.same (HasM.same (HasM.same (HasM.same (HasM.same (HasM.same (HasM.same HM.out (Below.heap_setCell _ ⟨g20, 0, none⟩ (.int .i64 a0) _ NM.out)) (Below.heap_setCell _ ⟨g20, 1, none⟩ (.int .i64 a1) _ NM.out)) (Below.heap_setCell _ ⟨g20, 2, none⟩ (.int .i64 a2) _ NM.out)) (Below.heap_setCell _ ⟨g20, 3, none⟩ (.int .i64 b0) _ NM.out)) (Below.heap_setCell _ ⟨g20, 4, none⟩ (.bool b1) _ NM.out)) (Below.heap_setCell _ ⟨g20, 5, none⟩ (.int .i64 e0) _ NM.out)) (Below.heap_setCell _ ⟨g20, 6, none⟩ (.bool e1) _ NM.out))); clear aQ HB HO HM; generalize (World.setCell (World.setCell (World.setCell (World.setCell (World.setCell (World.setCell (World.setCell w20 ⟨g20, 0, none⟩ (.int .i64 a0)) ⟨g20, 1, none⟩ (.int .i64 a1)) ⟨g20, 2, none⟩ (.int .i64 a2)) ⟨g20, 3, none⟩ (.int .i64 b0)) ⟨g20, 4, none⟩ (.bool b1)) ⟨g20, 5, none⟩ (.int .i64 e0)) ⟨g20, 6, none⟩ (.bool e1)) = w21 at n0_ n1_ n3_ n4_ ⊢; have aQ := n0_; have HB := n1_; have HO := n3_; have HM := n4_; clear n0_ n1_ n3_ n4_
            have t0 : w21.cell? ⟨g20, 0, none⟩ = some (.int .i64 a0) := (blk_cell aQ.out 0).trans rfl
            have t1 : w21.cell? ⟨g20, 1, none⟩ = some (.int .i64 a1) := (blk_cell aQ.out 1).trans rfl
            have t2 : w21.cell? ⟨g20, 2, none⟩ = some (.int .i64 a2) := (blk_cell aQ.out 2).trans rfl
            have t3 : w21.cell? ⟨g20, 3, none⟩ = some (.int .i64 b0) := (blk_cell aQ.out 3).trans rfl
            have t4 : w21.cell? ⟨g20, 4, none⟩ = some (.bool b1) := (blk_cell aQ.out 4).trans rfl
            have t5 : w21.cell? ⟨g20, 5, none⟩ = some (.int .i64 e0) := (blk_cell aQ.out 5).trans rfl
            have t6 : w21.cell? ⟨g20, 6, none⟩ = some (.bool e1) := (blk_cell aQ.out 6).trans rfl
            cases hd : decide ((a0, a1) ∈ (x6_3.take kk).map plc) with
            | true =>
             have hno : ¬ (x6_3.map plc).Nodup := fun h => by
              have h1 := h.sublist ((List.take_sublist (kk + 1) x6_3).map plc)
              rw [HTK.out] at h1
              exact (nodup_snoc.1 h1).2 (of_decide_eq_true hd)
             have e9 := HH.out
             unfold meetE at e9
             rw [if_neg hno] at e9
             simp only [Option.some.injEq, Prod.mk.injEq] at e9
             obtain ⟨rfl, rfl⟩ := e9
             clear hno
             go_wp2_with (first | (go_at_call 52; refine (place52b a0 a1 a2 _).mono ?_; rintro e w9 ⟨rfl, hb⟩; replace HB := zA (below_step HB.out hb); replace aQ := zA (blk_keep aQ.out hb); replace HO := zA (Kd.R_below HO.out hb); replace HM := zA (HM.out.same (hb.block gm HM.out.lt)); clear hb; clear t0 t1 t2 t3 t4 t5 t6; have hlk := look179 HM.out a0 a1; rw [HI.out (a0, a1), hd] at hlk; have t0 : w9.cell? ⟨g20, 0, none⟩ = some (.int .i64 a0) := (blk_cell aQ.out 0).trans rfl; have t1 : w9.cell? ⟨g20, 1, none⟩ = some (.int .i64 a1) := (blk_cell aQ.out 1).trans rfl; have t2 : w9.cell? ⟨g20, 2, none⟩ = some (.int .i64 a2) := (blk_cell aQ.out 2).trans rfl; have t3 : w9.cell? ⟨g20, 3, none⟩ = some (.int .i64 b0) := (blk_cell aQ.out 3).trans rfl; have t4 : w9.cell? ⟨g20, 4, none⟩ = some (.bool b1) := (blk_cell aQ.out 4).trans rfl; have t5 : w9.cell? ⟨g20, 5, none⟩ = some (.int .i64 e0) := (blk_cell aQ.out 5).trans rfl; have t6 : w9.cell? ⟨g20, 6, none⟩ = some (.bool e1) := (blk_cell aQ.out 6).trans rfl))
             go_ret2
             exact ⟨_, rfl, Kd.R_nil _ _ _ _ _, HB.out⟩
            | false =>
             have HI2 : Aside0 (∀ a, (getM (((a0, a1), true) :: M.filter fun p => decide (p.1 ≠ (a0, a1))) a).getD false = decide (a ∈ (x6_3.take (kk + 1)).map plc)) := ⟨fun a => by
              rw [getM_put, HTK.out]
              by_cases e : (a0, a1) = a
              ·
               subst e
               simp
              ·
               rw [if_neg e, HI.out a]
               simp
               exact fun h => absurd h.symm e⟩
             have HN2 : Aside0 (((x6_3.take (kk + 1)).map plc).Nodup) := ⟨by rw [HTK.out]; exact nodup_snoc.2 ⟨HN.out, of_decide_eq_false hd⟩⟩
             go_wp2_with (first | (go_at_call 52; refine (place52b a0 a1 a2 _).mono ?_; rintro e w9 ⟨rfl, hb⟩; replace HB := zA (below_step HB.out hb); replace aQ := zA (blk_keep aQ.out hb); replace HO := zA (Kd.R_below HO.out hb); replace HM := zA (HM.out.same (hb.block gm HM.out.lt)); clear hb; clear t0 t1 t2 t3 t4 t5 t6; (try clear hlk); (try clear hrun3 hM3 ht3); obtain ⟨W3, hrun3, hM3, ht3⟩ := store179 HM.out a0 a1; have hlk := look179 HM.out a0 a1; rw [HI.out (a0, a1), hd] at hlk; have t0 : w9.cell? ⟨g20, 0, none⟩ = some (.int .i64 a0) := (blk_cell aQ.out 0).trans rfl; have t1 : w9.cell? ⟨g20, 1, none⟩ = some (.int .i64 a1) := (blk_cell aQ.out 1).trans rfl; have t2 : w9.cell? ⟨g20, 2, none⟩ = some (.int .i64 a2) := (blk_cell aQ.out 2).trans rfl; have t3 : w9.cell? ⟨g20, 3, none⟩ = some (.int .i64 b0) := (blk_cell aQ.out 3).trans rfl; have t4 : w9.cell? ⟨g20, 4, none⟩ = some (.bool b1) := (blk_cell aQ.out 4).trans rfl; have t5 : w9.cell? ⟨g20, 5, none⟩ = some (.int .i64 e0) := (blk_cell aQ.out 5).trans rfl; have t6 : w9.cell? ⟨g20, 6, none⟩ = some (.bool e1) := (blk_cell aQ.out 6).trans rfl))
             have HB3 := zA (below_turn HB.out ht3 GM.out HB.out.size)
             have HO3 := zA (Kd.R_grown HO.out ht3.grown (fun k_ hk_ e => hk_ (by injection e)))
             go_roundg g1
             case measure => have := HQ.out; omega
             case rel => exact ⟨kk + 1, _, by have := HL6.out; have := HQ.out; rw [wrap64_in _ (by omega)]; go_num, by have := HQ.out; omega, by have := HQ.out; have := HKX.out; omega, ⟨hM3⟩, HI2, HN2, HO3, HB3⟩
           ·
            obtain rfl : kk = x6_3.length := by omega
            have hn := HN.out
            rw [List.take_length] at hn
            have e9 := HH.out
            unfold meetE at e9
            rw [if_pos hn] at e9
            clear hn
            by_cases c2 : 30 < x6_3.length
            ·
             rw [if_pos c2] at e9
             simp only [Option.some.injEq, Prod.mk.injEq] at e9
             obtain ⟨rfl, rfl⟩ := e9
             have q2 : (30 : Int) < (x6_3.length : Int) := by omega
             go_wp2
             go_ret2
             exact ⟨_, rfl, Kd.R_nil _ _ _ _ _, HB.out⟩
            ·
             rw [if_neg c2] at e9
             simp only [Option.some.injEq, Prod.mk.injEq] at e9
             obtain ⟨rfl, rfl⟩ := e9
             have q2 : ¬ (30 : Int) < (x6_3.length : Int) := by omega
             go_wp2
             go_ret2
             exact ⟨_, rfl, Kd.R_mono HO.out (fun _ _ => trivial), HB.out⟩
end Go.Proofs.Ytehpbmdphfbooaa.P
end
section
namespace Go.Proofs.Ytehpbmdphfbooaa.P
open Go.RowKit Go.Proofs Go.Proofs.YtehpbmdphfbooaaW.PrintWords Go.Proofs.YtehpbmdphfbooaaW.PrintLast Go.Proofs.YtehpbmdphfbooaaW.PrintMore
set_option linter.unusedVariables false
set_option linter.unusedSimpArgs false
def plcN (n : S61) : Int × Int := (n.f0, n.f1)
def atB (q : Int × Int) (n : S61) : Bool := decide (n.f0 = q.1) && decide (n.f1 = q.2)
theorem own2_ (a b c d : Int) (w : World) : (if a = b then if c = d then Result.ok (Next.value (Value.bool true)) w else Result.ok (Next.value (Value.bool false)) w else Result.ok (Next.value (Value.bool false)) w) = Result.ok (Next.value (Value.bool (decide (a = b) && decide (c = d)))) w := by
  by_cases h : a = b <;> by_cases k : c = d <;> simp [h, k]
def next113.T1 : Bool × List (List Nat × List Nat) := (true, [([], []), ([0], [0]), ([], []), ([2], [2]), ([], []), ([3, 4], [3, 4]), ([5], [5]), ([6, 1], [6]), ([1, 7], [1, 7]), ([8, 7, 0, 1, 2, 3, 4, 5, 6, 7, 8], [8])])
def next113.B1 : List Nat := [0, 1, 0, 4, 0, 28, 60, 127, 255, 511]
theorem next113.tab1 : rtab .any (opsOf Try.f113 1) = next113.T1 := by kernel_rfl
theorem next113.bits1 : waitsOk next113.T1.2 next113.B1 = true := by kernel_rfl
set_option maxHeartbeats 4000000 in
set_option maxRecDepth 100000 in
theorem next113 (gb gi : Nat) (A0 : Option Addr) (c0 : Nat) (F : List S61) (v1 v2 : Value) (i n0 n1 n2 : Int) (w : World) (hp : w.heap[gb]? = some (.cells #[.slice A0 F.length c0, v1, v2] 28 (0, 0))) (hi : w.heap[gi]? = some (.cells #[.int .i64 i] 3 (0, 0))) (hC : Kd.C k61 w A0 F.length F) (h0 : 0 ≤ i) (h1 : i < F.length) :
  Calls Try.prog 113 #[.agg #[.int .i64 n0, .int .i64 n1, .int .i64 n2], .pointer (some ⟨gb, 0, none⟩), .pointer (some ⟨gi, 0, none⟩)] w fun e w' => e = .returned (.bool (atB (plcN (rd_T61 F i)) ⟨n0, n1, n2⟩)) ∧ Below w.heap.size w w' := by
 have mixed : Try.prog.follows .mixedOrders = true := by kernel_rfl
 have hu28 := Try.underlying28
 have hu61 := Try.underlying61
 have hu106 := Try.underlying106
 have aa := zA hp
 have ab := zA hi
 have HB := zA (Below.refl w.heap.size w)
 obtain ⟨ad, e, y0, y1, y2⟩ := at_T61 hC i h0 h1
 cases e
 obtain ⟨x0, hx0⟩ : ∃ x_, x_ = (rd_T61 F i).f0 := ⟨_, rfl⟩
 obtain ⟨x1, hx1⟩ : ∃ x_, x_ = (rd_T61 F i).f1 := ⟨_, rfl⟩
 obtain ⟨x2, hx2⟩ : ∃ x_, x_ = (rd_T61 F i).f2 := ⟨_, rfl⟩
 have HV : Aside0 (atB (plcN (rd_T61 F i)) ⟨n0, n1, n2⟩ = (decide (n0 = x0) && decide (n1 = x1))) := ⟨by rw [hx0, hx1]; rfl⟩
 rw [← hx0] at y0
 rw [← hx1] at y1
 rw [← hx2] at y2
 have XC0 := zA y0
 have XC1 := zA y1
 have XC2 := zA y2
 have HI0 := zA h0
 have HI1 := zA h1
 clear hp hi hC h0 h1 y0 y1 y2 hx0 hx1 hx2
 go_enter Try.func113, Try.ntmps113
 go_upto_region 1 with (first | ((with_reducible refine gate_dst (N := 3) rfl ?_); refine box_event ?hg (N := 3) ?hd (cs := #[.int .i64 n0, .int .i64 n1, .int .i64 n2]) (t := 61) ?hr ?_; (case hd => rfl); (case hg => rfl); (case hr => first | (go_simp; done) | (go_simp; rfl)); intro g3 hg w3 hbox hb; replace HB := zA (below_step HB.out hb); replace aa := zA (blk_keep aa.out hb); replace ab := zA (blk_keep ab.out hb); replace XC0 := zA ((hb.cell (World.block_lt_of_cell? _ _ XC0.out)).trans XC0.out); replace XC1 := zA ((hb.cell (World.block_lt_of_cell? _ _ XC1.out)).trans XC1.out); replace XC2 := zA ((hb.cell (World.block_lt_of_cell? _ _ XC2.out)).trans XC2.out); have ac := zA hbox; clear hb hbox hg))
 replace HB := zA (below_drew1 HB.out)
 replace aa := zA (blk_drew aa.out)
 replace ab := zA (blk_drew ab.out)
 replace XC0 := zA ((show World.cell? w3.drew _ = _ from XC0.out))
 replace XC1 := zA ((show World.cell? w3.drew _ = _ from XC1.out))
 replace XC2 := zA ((show World.cell? w3.drew _ = _ from XC2.out))
 replace ac := zA (blk_drew ac.out)
 refine start_ (n := 10) (S := fun w' => w'.heap[g3]? = some (.cells #[.int .i64 n0, .int .i64 n1, .int .i64 n2] 61 (0, 0)) ∧ w'.heap[gb]? = some (.cells #[.slice (some ad) F.length c0, v1, v2] 28 (0, 0)) ∧ w'.heap[gi]? = some (.cells #[.int .i64 i] 3 (0, 0)) ∧ w'.cell? (ad.add (i.toNat * 3)) = some (.int .i64 x0) ∧ w'.cell? ⟨(ad.add (i.toNat * 3)).block, (ad.add (i.toNat * 3)).off + 1, none⟩ = some (.int .i64 x1) ∧ w'.cell? ⟨(ad.add (i.toNat * 3)).block, (ad.add (i.toNat * 3)).off + 2, none⟩ = some (.int .i64 x2)) (ds := []) #[false, false, false, false, false, false, false, false, false, false] (by kernel_rfl) rfl rfl ⟨ac.out, aa.out, ab.out, XC0.out, XC1.out, XC2.out⟩ (fun hHeld => ?_); refine with_tabW next113.tab1 next113.bits1 (fun HT_ HW_ => ?_)
 generalize World.drew w3 = w4 at HB aa ab XC0 XC1 XC2 ac hHeld ⊢
 refine pureQ 2 (some 7) HT_ ?_
 refine takeQ (v := ?_) (a' := ?_) 0 (some 5) HT_ HW_ hHeld ?_ ?_ ?_
 rotate_left
 ·
  rintro w' ⟨s0, s1, s2, s3, s4, s5⟩
  have y0_0 : w'.cell? ⟨g3, 0, none⟩ = some (.int .i64 n0) := (blk_cell s0 0).trans rfl
  have y0_1 : w'.cell? ⟨g3, 1, none⟩ = some (.int .i64 n1) := (blk_cell s0 1).trans rfl
  have y0_2 : w'.cell? ⟨g3, 2, none⟩ = some (.int .i64 n2) := (blk_cell s0 2).trans rfl
  have y1_0 : w'.cell? ⟨gb, 0, none⟩ = some (.slice (some ad) F.length c0) := (blk_cell s1 0).trans rfl
  have y1_1 : w'.cell? ⟨gb, 1, none⟩ = some (v1) := (blk_cell s1 1).trans rfl
  have y1_2 : w'.cell? ⟨gb, 2, none⟩ = some (v2) := (blk_cell s1 2).trans rfl
  have y2_0 : w'.cell? ⟨gi, 0, none⟩ = some (.int .i64 i) := (blk_cell s2 0).trans rfl
  go_simp
  with_reducible rfl
 rotate_left
 ·
  exact putQ
 refine takeQ (v := ?_) (a' := ?_) 3 (some 8) HT_ HW_ hHeld ?_ ?_ ?_
 rotate_left
 ·
  rintro w' ⟨s0, s1, s2, s3, s4, s5⟩
  have y0_0 : w'.cell? ⟨g3, 0, none⟩ = some (.int .i64 n0) := (blk_cell s0 0).trans rfl
  have y0_1 : w'.cell? ⟨g3, 1, none⟩ = some (.int .i64 n1) := (blk_cell s0 1).trans rfl
  have y0_2 : w'.cell? ⟨g3, 2, none⟩ = some (.int .i64 n2) := (blk_cell s0 2).trans rfl
  have y1_0 : w'.cell? ⟨gb, 0, none⟩ = some (.slice (some ad) F.length c0) := (blk_cell s1 0).trans rfl
  have y1_1 : w'.cell? ⟨gb, 1, none⟩ = some (v1) := (blk_cell s1 1).trans rfl
  have y1_2 : w'.cell? ⟨gb, 2, none⟩ = some (v2) := (blk_cell s1 2).trans rfl
  have y2_0 : w'.cell? ⟨gi, 0, none⟩ = some (.int .i64 i) := (blk_cell s2 0).trans rfl
  go_simp
  with_reducible rfl
 rotate_left
 ·
  exact putQ
 refine takeQ (v := ?_) (a' := ?_) 4 (some 9) HT_ HW_ hHeld ?_ ?_ ?_
 rotate_left
 ·
  rintro w' ⟨s0, s1, s2, s3, s4, s5⟩
  have y0_0 : w'.cell? ⟨g3, 0, none⟩ = some (.int .i64 n0) := (blk_cell s0 0).trans rfl
  have y0_1 : w'.cell? ⟨g3, 1, none⟩ = some (.int .i64 n1) := (blk_cell s0 1).trans rfl
  have y0_2 : w'.cell? ⟨g3, 2, none⟩ = some (.int .i64 n2) := (blk_cell s0 2).trans rfl
  have y1_0 : w'.cell? ⟨gb, 0, none⟩ = some (.slice (some ad) F.length c0) := (blk_cell s1 0).trans rfl
  have y1_1 : w'.cell? ⟨gb, 1, none⟩ = some (v1) := (blk_cell s1 1).trans rfl
  have y1_2 : w'.cell? ⟨gb, 2, none⟩ = some (v2) := (blk_cell s1 2).trans rfl
  have y2_0 : w'.cell? ⟨gi, 0, none⟩ = some (.int .i64 i) := (blk_cell s2 0).trans rfl
  go_simp
  with_reducible rfl
 rotate_left
 ·
  exact putQ
 refine pure_ (i := 5) (N := (some 10)) (v := ?_) (a' := ?_) #[true, false, true, true, true, true, false, false, false, false] rfl rfl (any_of HT_.out (by kernel_rfl)) (fun _ _ _ h => h) (Or.inl ⟨by rfl, ?_⟩) ?_ ?_
 rotate_left
 ·
  intro w'
  have h0 := HI0.out
  have h1 := HI1.out
  go_simp
  with_reducible rfl
 rotate_left
 ·
  exact putQ
 refine takeQ (v := ?_) (a' := ?_) 6 (some 11) HT_ HW_ hHeld ?_ ?_ ?_
 rotate_left
 ·
  rintro w' ⟨s0, s1, s2, s3, s4, s5⟩
  have y0_0 : w'.cell? ⟨g3, 0, none⟩ = some (.int .i64 n0) := (blk_cell s0 0).trans rfl
  have y0_1 : w'.cell? ⟨g3, 1, none⟩ = some (.int .i64 n1) := (blk_cell s0 1).trans rfl
  have y0_2 : w'.cell? ⟨g3, 2, none⟩ = some (.int .i64 n2) := (blk_cell s0 2).trans rfl
  have y1_0 : w'.cell? ⟨gb, 0, none⟩ = some (.slice (some ad) F.length c0) := (blk_cell s1 0).trans rfl
  have y1_1 : w'.cell? ⟨gb, 1, none⟩ = some (v1) := (blk_cell s1 1).trans rfl
  have y1_2 : w'.cell? ⟨gb, 2, none⟩ = some (v2) := (blk_cell s1 2).trans rfl
  have y2_0 : w'.cell? ⟨gi, 0, none⟩ = some (.int .i64 i) := (blk_cell s2 0).trans rfl
  go_simp
  with_reducible rfl
 rotate_left
 ·
  exact putQ
 refine one_ (i := 1) (N := (some 6)) #[true, true, true, true, true, true, true, false, false, false] rfl rfl (one_of HT_.out (by kernel_rfl)) (by decide) (fun K hK => ?_)
 refine goes_ Try.func52 (by kernel_rfl) rfl #[.agg #[.int .i64 n0, .int .i64 n1, .int .i64 n2]] (by rfl) rfl rfl (by (try simp only [List.map_toArray, List.map_cons, List.map_nil]); first | done | rfl) ?_
 refine (place52b n0 n1 n2 _).mono ?_
 rintro e w' ⟨rfl, hb⟩
 replace HB := zA (below_step HB.out hb)
 replace aa := zA (blk_keep aa.out hb)
 replace ab := zA (blk_keep ab.out hb)
 replace XC0 := zA ((hb.cell (World.block_lt_of_cell? _ _ XC0.out)).trans XC0.out)
 replace XC1 := zA ((hb.cell (World.block_lt_of_cell? _ _ XC1.out)).trans XC1.out)
 replace XC2 := zA ((hb.cell (World.block_lt_of_cell? _ _ XC2.out)).trans XC2.out)
 replace ac := zA (blk_keep ac.out hb)
 clear hb
 refine ⟨_, rfl, ?_⟩
 refine hK.out _ _ ⟨ac.out, aa.out, ab.out, XC0.out, XC1.out, XC2.out⟩ (fun hHeld => ?_)
 clear hK K
 refine normQ ?_
 refine one_ (i := 7) (N := (some 12)) #[true, true, true, true, true, true, true, true, false, false] rfl rfl (one_of HT_.out (by kernel_rfl)) (by decide) (fun K hK => ?_)
 refine goes_ Try.func52 (by kernel_rfl) rfl #[.agg #[.int .i64 x0, .int .i64 x1, .int .i64 x2]] (by rfl) rfl rfl (by (try simp only [List.map_toArray, List.map_cons, List.map_nil]); first | done | rfl) ?_
 refine (place52b x0 x1 x2 _).mono ?_
 rintro e w' ⟨rfl, hb⟩
 replace HB := zA (below_step HB.out hb)
 replace aa := zA (blk_keep aa.out hb)
 replace ab := zA (blk_keep ab.out hb)
 replace XC0 := zA ((hb.cell (World.block_lt_of_cell? _ _ XC0.out)).trans XC0.out)
 replace XC1 := zA ((hb.cell (World.block_lt_of_cell? _ _ XC1.out)).trans XC1.out)
 replace XC2 := zA ((hb.cell (World.block_lt_of_cell? _ _ XC2.out)).trans XC2.out)
 replace ac := zA (blk_keep ac.out hb)
 clear hb
 refine ⟨_, rfl, ?_⟩
 refine hK.out _ _ ⟨ac.out, aa.out, ab.out, XC0.out, XC1.out, XC2.out⟩ (fun hHeld => ?_)
 clear hK K
 refine normQ ?_
 refine pure_ (i := 8) (N := (some 13)) (v := ?_) (a' := ?_) #[true, true, true, true, true, true, true, true, true, false] rfl rfl (any_of HT_.out (by kernel_rfl)) (fun _ _ _ h => h) (Or.inl ⟨by rfl, ?_⟩) ?_ ?_
 rotate_left
 ·
  intro w'
  go_simp
  exact own2_ _ _ _ _ _
 rotate_left
 ·
  exact putQ
 refine pureQ 9 (some 4) HT_ ?_
 refine done_ (done_of HT_.out (by kernel_rfl)) ?_
 go_wp2
 go_ret
 exact ⟨by rw [HV.out]; rfl, HB.out⟩
set_option maxHeartbeats 4000000 in
set_option maxRecDepth 100000 in
theorem index112_113 (gb gi : Nat) (A : Option Addr) (c : Nat) (l : List S61) (g : S61 → Bool) (w : World) (hC : Kd.C k61 w A l.length l) (hl : l.length ≤ 1000000)
  (hcl : ∀ (x : S61) (W : World), Below w.heap.size w W → Calls Try.prog 113 #[.agg #[.int .i64 x.f0, .int .i64 x.f1, .int .i64 x.f2], .pointer (some ⟨gb, 0, none⟩), .pointer (some ⟨gi, 0, none⟩)] W fun e w' => e = .returned (.bool (g x)) ∧ Below W.heap.size W w') :
  Calls Try.prog 112 #[.slice A l.length c, .func (.func 113) #[] #[.pointer (some ⟨gb, 0, none⟩), .pointer (some ⟨gi, 0, none⟩)]] w fun e w' => e = .returned (.int .i64 (fIdx g l 0)) ∧ Below w.heap.size w w' := by
 have HC := zA hC
 have HCL := zA hcl
 have HB1 := zA (Below.refl w.heap.size w)
 have HX1 : Aside0 (fIdx g l 0 = fIdx g (l.drop 0) 0) := ⟨rfl⟩
 clear hC hcl
 go_enter Try.func112, Try.ntmps112
 go_wp2
 go_loopg [5, 8] l.length (fun kq v5 v8 w' => ∃ k : Nat, v8 = .int .i64 k ∧ k ≤ l.length ∧ l.length - k ≤ kq ∧ Aside0 (fIdx g l 0 = fIdx g (l.drop k) k) ∧ Aside0 (Below w.heap.size w w'))
 case atStart => exact ⟨0, rfl, Nat.zero_le _, by omega, HX1, HB1⟩
 case round =>
  clear HX1 HB1
  obtain ⟨k, rfl, hk, hkx, HX, HB⟩ := hrel
  by_cases q : k < l.length
  ·
   have qz : (k : Int) < (l.length : Int) := by omega
   obtain ⟨g1, rfl⟩ : ∃ g_, gk = g_ + 1 := ⟨gk - 1, by omega⟩
   obtain ⟨ad, e, h0, h1, h2⟩ := at_T61 HC.out (k : Int) (by omega) qz
   subst e
   rw [Int.toNat_natCast] at h0 h1 h2
   replace h0 := (HB.out.cell (World.block_lt_of_cell? w _ h0)).trans h0
   replace h1 := (HB.out.cell (World.block_lt_of_cell? w _ h1)).trans h1
   replace h2 := (HB.out.cell (World.block_lt_of_cell? w _ h2)).trans h2
   have hd : fIdx g l 0 = if g (rd_T61 l (k : Int)) = true then (k : Int) else fIdx g (l.drop (k + 1)) (k + 1) := by
    rw [HX.out, List.drop_eq_getElem_cons q, rd61_at q]
    rfl
   have KC := zA (fun W => HCL.out (rd_T61 l (k : Int)) W)
   obtain ⟨x, hx⟩ : ∃ x_, x_ = rd_T61 l (k : Int) := ⟨_, rfl⟩
   rw [← hx] at h0 h1 h2 hd KC
   clear hx HX
   cases hg : g x with
   | true =>
    rw [hg, if_pos rfl] at hd
    have HD := zA hd
    have HG := zA hg
    clear hd hg
    go_wp2_with (first | (go_at_call 113; refine (KC.out _ HB.out).mono ?_; rintro e w9 ⟨rfl, hb⟩; replace HB := zA (below_step HB.out hb); clear h0 h1 h2 hb; rw [HG.out]))
    go_ret
    exact ⟨by rw [HD.out]; rfl, HB.out⟩
   | false =>
    rw [hg, if_neg (by decide)] at hd
    have HD := zA hd
    have HG := zA hg
    clear hd hg
    go_wp2_with (first | (go_at_call 113; refine (KC.out _ HB.out).mono ?_; rintro e w9 ⟨rfl, hb⟩; replace HB := zA (below_step HB.out hb); clear h0 h1 h2 hb; rw [HG.out]))
    go_roundg g1
    case measure => omega
    case rel => exact ⟨k + 1, by go_num, by omega, by omega, HD, HB⟩
  ·
   obtain rfl : k = l.length := by omega
   have hx := HX.out
   rw [List.drop_length] at hx
   have HD := zA hx
   clear hx HX
   go_wp2
   go_ret
   exact ⟨by rw [HD.out]; rfl, HB.out⟩
end Go.Proofs.Ytehpbmdphfbooaa.P
end
