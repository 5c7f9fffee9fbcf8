/- Words and contracts for a claim. -/
import Derived.Test.YtegffliopblajaaBase6
import Derived.Sort.LotA
section
namespace Go.Stb
open Go.Sort
variable {α : Type} [Inhabited α]
def swr (a b : Nat) : Nat → Array α → Array α
  | 0, d => d
  | n + 1, d => swp (swr a b n d) (a + n) (b + n)
theorem swr_size (a b : Nat) (d : Array α) : ∀ n, (swr a b n d).size = d.size
  | 0 => rfl
  | n + 1 => by rw [swr, swp_size, swr_size a b d n]
theorem swr_perm {lo hi a b : Nat} {d : Array α} (hla : lo ≤ a) (hlb : lo ≤ b) (hh : hi ≤ d.size) : ∀ n, a + n ≤ hi → b + n ≤ hi → PermIn lo hi d (swr a b n d)
  | 0, _, _ => permIn_refl _ _ _
  | n + 1, h1, h2 => permIn_trans _ _ _ _ _ (swr_perm hla hlb hh n (by omega) (by omega)) (swp_permIn _ _ _ _ _ (by omega) (by omega) (by omega) (by omega) (by rw [swr_size]; exact hh))
theorem swr_get {a b : Nat} {d : Array α} : ∀ n, a + n ≤ b → b + n ≤ d.size → ∀ k, (swr a b n d)[k]! = if a ≤ k ∧ k < a + n then d[k - a + b]! else if b ≤ k ∧ k < b + n then d[k - b + a]! else d[k]!
  | 0, _, _, k => by rw [swr, if_neg (by omega), if_neg (by omega)]
  | n + 1, h1, h2, k => by
    have ih := swr_get n (a := a) (b := b) (d := d) (by omega) (by omega)
    rw [swr, swp_get _ (by rw [swr_size]; omega) (by rw [swr_size]; omega)]
    by_cases c1 : k = b + n
    · subst c1
      rw [if_pos rfl, ih, if_neg (by omega), if_neg (by omega), if_neg (by omega), if_pos (by omega)]
      congr 1; omega
    · rw [if_neg c1]
      by_cases c2 : k = a + n
      · subst c2
        rw [if_pos rfl, ih, if_neg (by omega), if_neg (by omega), if_pos (by omega)]
        congr 1; omega
      · rw [if_neg c2, ih]
        by_cases c3 : a ≤ k ∧ k < a + n
        · rw [if_pos c3, if_pos (by omega)]
        · by_cases c4 : b ≤ k ∧ k < b + n
          · rw [if_neg c3, if_pos c4, if_neg (by omega), if_pos (by omega)]
          · rw [if_neg c3, if_neg c4, if_neg (by omega), if_neg (by omega)]
def rot : Nat → Nat → Nat → Nat → Array α → Array α
  | 0, _, _, _, d => d
  | f + 1, i, j, m, d => if i = j then swr (m - i) m i d else if j < i then rot f (i - j) j m (swr (m - i) m j d) else rot f i (j - i) m (swr (m - i) (m + j - i) i d)
theorem rot_size : ∀ (f i j m : Nat) (d : Array α), (rot f i j m d).size = d.size
  | 0, _, _, _, _ => rfl
  | f + 1, i, j, m, d => by
    rw [rot]
    split
    · exact swr_size _ _ _ _
    · split
      · rw [rot_size f, swr_size]
      · rw [rot_size f, swr_size]
theorem rot_perm {lo hi m : Nat} : ∀ (f i j : Nat) (d : Array α), i ≤ m → lo ≤ m - i → m + j ≤ hi → hi ≤ d.size → PermIn lo hi d (rot f i j m d)
  | 0, _, _, _, _, _, _, _ => permIn_refl _ _ _
  | f + 1, i, j, d, h1, h2, h3, h4 => by
    rw [rot]
    split
    · exact swr_perm h2 (by omega) h4 i (by omega) (by omega)
    · split
      · exact permIn_trans _ _ _ _ _ (swr_perm h2 (by omega) h4 j (by omega) (by omega)) (rot_perm f (i - j) j _ (by omega) (by omega) h3 (by rw [swr_size]; exact h4))
      · exact permIn_trans _ _ _ _ _ (swr_perm h2 (by omega) h4 i (by omega) (by omega)) (rot_perm f i (j - i) _ h1 h2 (by omega) (by rw [swr_size]; exact h4))
theorem rot_get {m : Nat} : ∀ (f i j : Nat) (d : Array α), i + j ≤ f → 0 < i → 0 < j → i ≤ m → m + j ≤ d.size → ∀ k,
    (rot f i j m d)[k]! = if m - i ≤ k ∧ k < m - i + j then d[k + i]! else if m - i + j ≤ k ∧ k < m + j then d[k - j]! else d[k]!
  | 0, i, j, d, hf, hi, hj, hm, hs, k => by omega
  | f + 1, i, j, d, hf, hi, hj, hm, hs, k => by
    rw [rot]
    by_cases c : i = j
    · subst c
      rw [if_pos rfl, swr_get i (by omega) (by omega)]
      by_cases c1 : m - i ≤ k ∧ k < m - i + i
      · rw [if_pos c1, if_pos c1]
        congr 1; omega
      · rw [if_neg c1, if_neg c1]
        by_cases c2 : m ≤ k ∧ k < m + i
        · rw [if_pos c2, if_pos (by omega)]
          congr 1; omega
        · rw [if_neg c2, if_neg (by omega)]
    · rw [if_neg c]
      by_cases c0 : j < i
      · have g := swr_get (a := m - i) (b := m) (d := d) j (by omega) (by omega)
        rw [if_pos c0, rot_get f (i - j) j _ (by omega) (by omega) hj (by omega) (by rw [swr_size]; omega)]
        by_cases c1 : m - (i - j) ≤ k ∧ k < m - (i - j) + j
        · rw [if_pos c1, g]
          by_cases q : m ≤ k + (i - j) ∧ k + (i - j) < m + j
          · rw [if_neg (by omega), if_pos q, if_neg (by omega), if_pos (by omega)]
            congr 1; omega
          · omega
        · rw [if_neg c1]
          by_cases c2 : m - (i - j) + j ≤ k ∧ k < m + j
          · rw [if_pos c2, g, if_neg (by omega), if_neg (by omega), if_neg (by omega), if_pos (by omega)]
          · rw [if_neg c2, g]
            by_cases c3 : m - i ≤ k ∧ k < m - i + j
            · rw [if_pos c3, if_pos c3]
              congr 1; omega
            · rw [if_neg c3, if_neg (by omega), if_neg c3, if_neg (by omega)]
      · have g := swr_get (a := m - i) (b := m + j - i) (d := d) i (by omega) (by omega)
        rw [if_neg c0, rot_get f i (j - i) _ (by omega) hi (by omega) hm (by rw [swr_size]; omega)]
        by_cases c1 : m - i ≤ k ∧ k < m - i + (j - i)
        · rw [if_pos c1, g, if_neg (by omega), if_neg (by omega), if_pos (by omega)]
        · rw [if_neg c1]
          by_cases c2 : m - i + (j - i) ≤ k ∧ k < m + (j - i)
          · rw [if_pos c2, g, if_pos (by omega), if_pos (by omega)]
            congr 1; omega
          · rw [if_neg c2, g]
            by_cases c3 : m + j - i ≤ k ∧ k < m + j - i + i
            · rw [if_neg (by omega), if_pos c3, if_neg (by omega), if_pos (by omega)]
              congr 1; omega
            · rw [if_neg (by omega), if_neg c3, if_neg (by omega), if_neg (by omega)]
def srch (p : Nat → Bool) : Nat → Nat → Nat → Nat
  | 0, i, _ => i
  | f + 1, i, j => if i < j then (if p ((i + j) / 2) = true then srch p f ((i + j) / 2 + 1) j else srch p f i ((i + j) / 2)) else i
theorem srch_spec {p : Nat → Bool} : ∀ (f i j : Nat), i ≤ j → j - i ≤ f → (∀ x y, i ≤ x → x ≤ y → y < j → p y = true → p x = true) →
    i ≤ srch p f i j ∧ srch p f i j ≤ j ∧ (∀ x, i ≤ x → x < srch p f i j → p x = true) ∧ ∀ x, srch p f i j ≤ x → x < j → p x = false
  | 0, i, j, h, hf, _ => ⟨Nat.le_refl _, by show i ≤ j; omega, fun x h1 h2 => by (have h3 : x < i := h2); omega, fun x h1 h2 => by (have h3 : i ≤ x := h1); omega⟩
  | f + 1, i, j, h, hf, hm => by
    rw [srch]
    by_cases c : i < j
    · rw [if_pos c]
      by_cases q : p ((i + j) / 2) = true
      · rw [if_pos q]
        obtain ⟨h1, h2, h3, h4⟩ := srch_spec f ((i + j) / 2 + 1) j (by omega) (by omega) (fun x y hx hy hyj => hm x y (by omega) hy hyj)
        refine ⟨by omega, h2, fun x hx hxs => ?_, h4⟩
        by_cases e : x ≤ (i + j) / 2
        · exact hm x ((i + j) / 2) hx e (by omega) q
        · exact h3 x (by omega) hxs
      · rw [if_neg q]
        obtain ⟨h1, h2, h3, h4⟩ := srch_spec f i ((i + j) / 2) (by omega) (by omega) (fun x y hx hy hyj => hm x y hx hy (by omega))
        refine ⟨h1, by omega, h3, fun x hx hxj => ?_⟩
        by_cases e : x < (i + j) / 2
        · exact h4 x hx e
        · cases w : p x with
          | false => rfl
          | true => exact absurd (hm ((i + j) / 2) x (by omega) (by omega) hxj w) q
    · rw [if_neg c]
      exact ⟨Nat.le_refl _, by omega, fun x h1 h2 => by omega, fun x h1 h2 => by omega⟩
def shl (a : Nat) : Nat → Array α → Array α
  | 0, d => d
  | n + 1, d => swp (shl a n d) (a + n) (a + n + 1)
def shr (m : Nat) : Nat → Array α → Array α
  | 0, d => d
  | n + 1, d => swp (shr m n d) (m - n) (m - n - 1)
theorem shl_size (a : Nat) (d : Array α) : ∀ n, (shl a n d).size = d.size
  | 0 => rfl
  | n + 1 => by rw [shl, swp_size, shl_size a d n]
theorem shr_size (m : Nat) (d : Array α) : ∀ n, (shr m n d).size = d.size
  | 0 => rfl
  | n + 1 => by rw [shr, swp_size, shr_size m d n]
theorem shl_perm {lo hi a : Nat} {d : Array α} (h : lo ≤ a) (hh : hi ≤ d.size) : ∀ n, a + n < hi → PermIn lo hi d (shl a n d)
  | 0, _ => permIn_refl _ _ _
  | n + 1, hn => permIn_trans _ _ _ _ _ (shl_perm h hh n (by omega)) (swp_permIn _ _ _ _ _ (by omega) (by omega) (by omega) (by omega) (by rw [shl_size]; exact hh))
theorem shr_perm {lo hi m : Nat} {d : Array α} (h : m < hi) (hh : hi ≤ d.size) : ∀ n, lo + n ≤ m → PermIn lo hi d (shr m n d)
  | 0, _ => permIn_refl _ _ _
  | n + 1, hn => permIn_trans _ _ _ _ _ (shr_perm h hh n (by omega)) (swp_permIn _ _ _ _ _ (by omega) (by omega) (by omega) (by omega) (by rw [shr_size]; exact hh))
theorem shl_get {a : Nat} {d : Array α} : ∀ n, a + n < d.size → ∀ k, (shl a n d)[k]! = if k = a + n then d[a]! else if a ≤ k ∧ k < a + n then d[k + 1]! else d[k]!
  | 0, _, k => by
    rw [shl]
    by_cases c : k = a
    · subst c; rw [if_pos (by omega)]
    · rw [if_neg (by omega), if_neg (by omega)]
  | n + 1, h, k => by
    have ih := shl_get n (a := a) (d := d) (by omega)
    rw [shl, swp_get _ (by rw [shl_size]; omega) (by rw [shl_size]; omega)]
    by_cases c : k = a + n + 1
    · subst c; rw [if_pos rfl, ih, if_pos rfl, if_pos (by omega)]
    · rw [if_neg c]
      by_cases c2 : k = a + n
      · subst c2; rw [if_pos rfl, ih, if_neg (by omega), if_neg (by omega), if_neg (by omega), if_pos (by omega)]
      · rw [if_neg c2, ih, if_neg c2, if_neg (show ¬ k = a + (n + 1) by omega)]
        by_cases c3 : a ≤ k ∧ k < a + n
        · rw [if_pos c3, if_pos (by omega)]
        · rw [if_neg c3, if_neg (by omega)]
theorem shr_get {m : Nat} {d : Array α} (hm : m < d.size) : ∀ n, n ≤ m → ∀ k, (shr m n d)[k]! = if k = m - n then d[m]! else if m - n < k ∧ k ≤ m then d[k - 1]! else d[k]!
  | 0, _, k => by
    rw [shr]
    by_cases c : k = m
    · subst c; rw [if_pos (by omega)]
    · rw [if_neg (by omega), if_neg (by omega)]
  | n + 1, h, k => by
    have ih := shr_get hm n (by omega)
    rw [shr, swp_get _ (by rw [shr_size]; omega) (by rw [shr_size]; omega)]
    by_cases c : k = m - n - 1
    · subst c; rw [if_pos rfl, ih, if_pos rfl, if_pos (by omega)]
    · rw [if_neg c]
      by_cases c2 : k = m - n
      · subst c2; rw [if_pos rfl, ih, if_neg (by omega), if_neg (by omega), if_neg (by omega), if_pos (by omega)]
      · rw [if_neg c2, ih, if_neg c2, if_neg (show ¬ k = m - (n + 1) by omega)]
        by_cases c3 : m - n < k ∧ k ≤ m
        · rw [if_pos c3, if_pos (by omega)]
        · rw [if_neg c3, if_neg (by omega)]
end Go.Stb
end
section
namespace Go.Stb
open Go.Sort
variable {α : Type} [Inhabited α]
def symSt (lt : α → α → Bool) (a m b : Nat) (d : Array α) : Nat :=
  if (a + b) / 2 < m then srch (fun c => !lt d[(a + b) / 2 + m - 1 - c]! d[c]!) (b - a) ((a + b) / 2 + m - b) ((a + b) / 2) else srch (fun c => !lt d[(a + b) / 2 + m - 1 - c]! d[c]!) (b - a) a m
def symRot (st m en : Nat) (d : Array α) : Array α := if st < m ∧ m < en then rot (en - st) (m - st) (en - m) m d else d
def symM (lt : α → α → Bool) : Nat → Nat → Nat → Nat → Array α → Array α
  | 0, _, _, _, d => d
  | f + 1, a, m, b, d =>
    if m - a = 1 then shl a (srch (fun h => lt d[h]! d[a]!) (b - m) m b - 1 - a) d
    else if b - m = 1 then shr m (m - srch (fun h => !lt d[m]! d[h]!) (m - a) a m) d
    else if (a + b) / 2 < (a + b) / 2 + m - symSt lt a m b d ∧ (a + b) / 2 + m - symSt lt a m b d < b then
      symM lt f ((a + b) / 2) ((a + b) / 2 + m - symSt lt a m b d) b (if a < symSt lt a m b d ∧ symSt lt a m b d < (a + b) / 2 then symM lt f a (symSt lt a m b d) ((a + b) / 2) (symRot (symSt lt a m b d) m ((a + b) / 2 + m - symSt lt a m b d) d) else symRot (symSt lt a m b d) m ((a + b) / 2 + m - symSt lt a m b d) d)
    else (if a < symSt lt a m b d ∧ symSt lt a m b d < (a + b) / 2 then symM lt f a (symSt lt a m b d) ((a + b) / 2) (symRot (symSt lt a m b d) m ((a + b) / 2 + m - symSt lt a m b d) d) else symRot (symSt lt a m b d) m ((a + b) / 2 + m - symSt lt a m b d) d)
theorem symRot_size (st m en : Nat) (d : Array α) : (symRot st m en d).size = d.size := by
  unfold symRot
  split
  · exact rot_size _ _ _ _ _
  · rfl
theorem symRot_perm {lo hi st m en : Nat} {d : Array α} (h1 : lo ≤ st) (h2 : en ≤ hi) (hh : hi ≤ d.size) : PermIn lo hi d (symRot st m en d) := by
  unfold symRot
  split
  · exact rot_perm _ _ _ _ (by omega) (by omega) (by omega) hh
  · exact permIn_refl _ _ _
theorem symRot_get {st m en mid : Nat} {d : Array α} (h1 : st ≤ m) (h2 : m ≤ en) (h3 : st + en = mid + m) (hh : en ≤ d.size) (k : Nat) :
    (symRot st m en d)[k]! = if st ≤ k ∧ k < mid then d[k + (m - st)]! else if mid ≤ k ∧ k < en then d[k - (en - m)]! else d[k]! := by
  unfold symRot
  by_cases c : st < m ∧ m < en
  · rw [if_pos c, rot_get _ _ _ _ (by omega) (by omega) (by omega) (by omega) (by omega)]
    by_cases c1 : st ≤ k ∧ k < mid
    · rw [if_pos (by omega), if_pos c1]
    · by_cases c2 : mid ≤ k ∧ k < en
      · rw [if_neg (by omega), if_pos (by omega), if_neg c1, if_pos c2]
      · rw [if_neg (by omega), if_neg (by omega), if_neg c1, if_neg c2]
  · rw [if_neg c]
    by_cases c1 : st ≤ k ∧ k < mid
    · rw [if_pos c1]
      congr 1; omega
    · rw [if_neg c1]
      by_cases c2 : mid ≤ k ∧ k < en
      · rw [if_pos c2]
        congr 1; omega
      · rw [if_neg c2]
theorem sorted_join {lt : α → α → Bool} {a m b : Nat} {d : Array α} (h1 : SortedIn lt a m d) (h2 : SortedIn lt m b d) (h : ∀ i j, a ≤ i → i < m → m ≤ j → j < b → lt d[j]! d[i]! = false) : SortedIn lt a b d := by
  intro i j hi hij hj
  by_cases c : j < m
  · exact h1 i j hi hij c
  · by_cases c2 : i < m
    · exact h i j hi c2 (by omega) hj
    · exact h2 i j (by omega) hij hj
variable {lt lt' : α → α → Bool} {R : α → α → Prop}
theorem symSt_spec (hS : SWO lt') (hag : ∀ x y, R y x → lt x y = lt' x y) {a m b : Nat} {d : Array α} (h1 : a < m) (h2 : m < b) (s1 : SortedIn lt' a m d) (s2 : SortedIn lt' m b d) (hR : ∀ i j, a ≤ i → i < m → m ≤ j → j < b → R d[i]! d[j]!) :
  a ≤ symSt lt a m b d ∧ symSt lt a m b d ≤ m ∧ symSt lt a m b d ≤ (a + b) / 2 ∧ (a + b) / 2 + m - symSt lt a m b d ≤ b ∧ m ≤ (a + b) / 2 + m - symSt lt a m b d ∧
  (∀ i j, a ≤ i → i < symSt lt a m b d → (a + b) / 2 + m - symSt lt a m b d ≤ j → j < b → lt' d[j]! d[i]! = false) ∧
  (∀ i j, symSt lt a m b d ≤ i → i < m → m ≤ j → j < (a + b) / 2 + m - symSt lt a m b d → lt' d[i]! d[j]! = false) := by
 obtain ⟨mid, hmid⟩ : ∃ mid, mid = (a + b) / 2 := ⟨_, rfl⟩
 have hle : ∀ x y, a ≤ x → x ≤ y → y < m → lt' d[y]! d[x]! = false := fun x y hx hxy hy => by
  by_cases e : x = y
  ·
   subst e; exact hS.irrefl _
  ·
   exact s1 x y hx (by omega) hy
 have hre : ∀ x y, m ≤ x → x ≤ y → y < b → lt' d[y]! d[x]! = false := fun x y hx hxy hy => by
  by_cases e : x = y
  ·
   subst e; exact hS.irrefl _
  ·
   exact s2 x y hx (by omega) hy
 obtain ⟨lo, hi, e, r1, r2, r3, r4, r5, r6, r7⟩ : ∃ lo hi, symSt lt a m b d = srch (fun c => !lt d[mid + m - 1 - c]! d[c]!) (b - a) lo hi ∧ a ≤ lo ∧ lo ≤ hi ∧ hi ≤ m ∧ hi ≤ mid ∧ mid + m ≤ lo + b ∧ (lo = a ∨ lo + b = mid + m) ∧ (hi = m ∨ hi = mid) := by
  unfold symSt
  rw [← hmid]
  by_cases c : mid < m
  ·
   rw [if_pos c]
   exact ⟨mid + m - b, mid, rfl, by omega, by omega, by omega, by omega, by omega, by omega, by omega⟩
  ·
   rw [if_neg c]
   exact ⟨a, m, rfl, by omega, by omega, by omega, by omega, by omega, by omega, by omega⟩
 have hlt : ∀ c, lo ≤ c → c < hi → lt d[mid + m - 1 - c]! d[c]! = lt' d[mid + m - 1 - c]! d[c]! := fun c hc hc2 => hag _ _ (hR c (mid + m - 1 - c) (by omega) (by omega) (by omega) (by omega))
 obtain ⟨q1, q2, q3, q4⟩ := srch_spec (p := fun c => !lt d[mid + m - 1 - c]! d[c]!) (b - a) lo hi r2 (by omega) (fun x y hx hxy hy hp => by
  simp only [Bool.not_eq_true'] at hp ⊢
  rw [hlt y (by omega) hy] at hp
  rw [hlt x hx (by omega)]
  exact hS.ntrans _ _ _ (hre (mid + m - 1 - y) (mid + m - 1 - x) (by omega) (by omega) (by omega)) (hS.ntrans _ _ _ hp (hle x y (by omega) hxy (by omega))))
 rw [← e] at q1 q2 q3 q4
 rw [← hmid]
 refine ⟨by omega, by omega, by omega, by omega, by omega, fun i j hi1 hi2 hj1 hj2 => ?_, fun i j hi1 hi2 hj1 hj2 => ?_⟩
 ·
  by_cases cl : symSt lt a m b d = lo
  ·
   omega
  ·
   have hp := q3 (symSt lt a m b d - 1) (by omega) (by omega)
   simp only [Bool.not_eq_true'] at hp
   rw [hlt _ (by omega) (by omega)] at hp
   rw [show mid + m - 1 - (symSt lt a m b d - 1) = mid + m - symSt lt a m b d by omega] at hp
   exact hS.ntrans _ _ _ (hre _ j (by omega) hj1 hj2) (hS.ntrans _ _ _ hp (hle i _ hi1 (by omega) (by omega)))
 ·
  by_cases ch : symSt lt a m b d = hi
  ·
   omega
  ·
   have hp := q4 (symSt lt a m b d) (by omega) (by omega)
   simp only [Bool.not_eq_false'] at hp
   rw [hlt _ (by omega) (by omega)] at hp
   have hp2 := hS.asymmA hp
   exact hS.ntrans _ _ _ (hle _ i (by omega) hi1 hi2) (hS.ntrans _ _ _ hp2 (hre j _ hj1 (by omega) (by omega)))
theorem symM_spec (hS : SWO lt') (hag : ∀ x y, R y x → lt x y = lt' x y) : ∀ (f a m b : Nat) (d : Array α), b - a ≤ f → a < m → m < b → b ≤ d.size → SortedIn lt' a m d → SortedIn lt' m b d →
  (∀ i j, a ≤ i → i < m → m ≤ j → j < b → R d[i]! d[j]!) → SortedIn lt' a b (symM lt f a m b d) ∧ PermIn a b d (symM lt f a m b d)
 | 0, a, m, b, d, hf, h1, h2, _, _, _, _ => by omega
 | f + 1, a, m, b, d, hf, h1, h2, hb, s1, s2, hR => by
  rw [symM]
  by_cases c1 : m - a = 1
  ·
   rw [if_pos c1]
   have hlt : ∀ h, m ≤ h → h < b → lt d[h]! d[a]! = lt' d[h]! d[a]! := fun h h3 h4 => hag _ _ (hR a h (by omega) h1 h3 h4)
   obtain ⟨q1, q2, q3, q4⟩ := srch_spec (p := fun h => lt d[h]! d[a]!) (b - m) m b (by omega) (Nat.le_refl _) (fun x y hx hxy hy hp => by
    rw [hlt y (by omega) hy] at hp
    rw [hlt x hx (by omega)]
    by_cases e : x = y
    ·
     subst e; exact hp
    ·
     have := s2 x y hx (by omega) hy
     cases w : lt' d[x]! d[a]! with
     | true => rfl
     | false => rw [hS.ntrans _ _ _ this w] at hp; cases hp)
   obtain ⟨i, hi⟩ : ∃ i, i = srch (fun h => lt d[h]! d[a]!) (b - m) m b := ⟨_, rfl⟩
   rw [← hi] at q1 q2 q3 q4 ⊢
   have g := shl_get (a := a) (d := d) (i - 1 - a) (by omega)
   refine ⟨fun x y hx hxy hy => ?_, shl_perm (Nat.le_refl _) hb _ (by omega)⟩
   rw [g, g]
   by_cases e1 : y = a + (i - 1 - a)
   ·
    rw [if_pos e1, if_neg (by omega), if_pos (by omega)]
    have := q3 (x + 1) (by omega) (by omega)
    rw [hlt _ (by omega) (by omega)] at this
    exact hS.asymmA this
   ·
    rw [if_neg e1]
    by_cases e2 : y < a + (i - 1 - a)
    ·
     rw [if_pos (by omega), if_neg (by omega), if_pos (by omega)]
     exact s2 _ _ (by omega) (by omega) (by omega)
    ·
     rw [if_neg (by omega)]
     by_cases e3 : x = a + (i - 1 - a)
     ·
      rw [if_pos e3]
      have := q4 y (by omega) hy
      rw [hlt _ (by omega) hy] at this
      exact this
     ·
      rw [if_neg e3]
      by_cases e4 : x < a + (i - 1 - a)
      ·
       rw [if_pos (by omega)]
       exact s2 _ _ (by omega) (by omega) hy
      ·
       rw [if_neg (by omega)]
       exact s2 _ _ (by omega) hxy hy
  ·
   rw [if_neg c1]
   by_cases c2 : b - m = 1
   ·
    rw [if_pos c2]
    have hlt : ∀ h, a ≤ h → h < m → lt d[m]! d[h]! = lt' d[m]! d[h]! := fun h h3 h4 => hag _ _ (hR h m h3 h4 (Nat.le_refl _) h2)
    obtain ⟨q1, q2, q3, q4⟩ := srch_spec (p := fun h => !lt d[m]! d[h]!) (m - a) a m (by omega) (Nat.le_refl _) (fun x y hx hxy hy hp => by
     simp only [Bool.not_eq_true'] at hp ⊢
     rw [hlt y (by omega) hy] at hp
     rw [hlt x hx (by omega)]
     by_cases e : x = y
     ·
      subst e; exact hp
     ·
      exact hS.ntrans _ _ _ hp (s1 x y hx (by omega) hy))
    obtain ⟨i, hi⟩ : ∃ i, i = srch (fun h => !lt d[m]! d[h]!) (m - a) a m := ⟨_, rfl⟩
    rw [← hi] at q1 q2 q3 q4 ⊢
    have g := shr_get (m := m) (d := d) (by omega) (m - i) (by omega)
    refine ⟨fun x y hx hxy hy => ?_, shr_perm h2 hb _ (by omega)⟩
    rw [g, g]
    by_cases e1 : x = m - (m - i)
    ·
     rw [if_pos e1, if_neg (by omega), if_pos (by omega)]
     have := q4 (y - 1) (by omega) (by omega)
     simp only [Bool.not_eq_false'] at this
     rw [hlt _ (by omega) (by omega)] at this
     exact hS.asymmA this
    ·
     rw [if_neg e1]
     by_cases e2 : m - (m - i) < x
     ·
      rw [if_neg (by omega), if_pos (by omega), if_pos (by omega)]
      exact s1 _ _ (by omega) (by omega) (by omega)
     ·
      by_cases e3 : y = m - (m - i)
      ·
       rw [if_pos e3, if_neg (by omega)]
       have := q3 x hx (by omega)
       simp only [Bool.not_eq_true'] at this
       rw [hlt _ hx (by omega)] at this
       exact this
      ·
       by_cases e4 : m - (m - i) < y
       ·
        rw [if_neg e3, if_pos (by omega), if_neg (by omega)]
        exact s1 _ _ hx (by omega) (by omega)
       ·
        rw [if_neg e3, if_neg (by omega), if_neg (by omega)]
        exact s1 _ _ hx hxy (by omega)
   ·
    rw [if_neg c2]
    obtain ⟨t1, t2, t3, t4, t5, x1, x2⟩ := symSt_spec (R := R) hS hag h1 h2 s1 s2 hR
    obtain ⟨st, hst⟩ : ∃ st, st = symSt lt a m b d := ⟨_, rfl⟩
    obtain ⟨mid, hmid⟩ : ∃ mid, mid = (a + b) / 2 := ⟨_, rfl⟩
    rw [← hst] at t1 t2 t3 t4 t5 x1 x2 ⊢
    rw [← hmid] at t3 t4 t5 x1 x2 ⊢
    obtain ⟨en, hen⟩ : ∃ en, en = mid + m - st := ⟨_, rfl⟩
    rw [← hen] at t4 t5 x1 x2 ⊢
    have z1 := symRot_size st m en d
    have g := symRot_get (st := st) (m := m) (en := en) (mid := mid) (d := d) t2 t5 (by omega) (by omega)
    have p1 : PermIn a b d (symRot st m en d) := symRot_perm t1 t4 hb
    obtain ⟨d1, hd1⟩ : ∃ d1, d1 = symRot st m en d := ⟨_, rfl⟩
    rw [← hd1] at z1 g p1 ⊢
    have gA : ∀ k, k < st → d1[k]! = d[k]! := fun k h => by rw [g, if_neg (by omega), if_neg (by omega)]
    have gB : ∀ k, st ≤ k → k < mid → d1[k]! = d[k + (m - st)]! := fun k h h' => by rw [g, if_pos ⟨h, h'⟩]
    have gC : ∀ k, mid ≤ k → k < en → d1[k]! = d[k - (en - m)]! := fun k h h' => by rw [g, if_neg (by omega), if_pos ⟨h, h'⟩]
    have gD : ∀ k, en ≤ k → d1[k]! = d[k]! := fun k h => by rw [g, if_neg (by omega), if_neg (by omega)]
    have sA : SortedIn lt' a st d1 := fun i j hi hij hj => by rw [gA i (by omega), gA j hj]; exact s1 i j hi hij (by omega)
    have sB : SortedIn lt' st mid d1 := fun i j hi hij hj => by rw [gB i hi (by omega), gB j (by omega) hj]; exact s2 _ _ (by omega) (by omega) (by omega)
    have sC : SortedIn lt' mid en d1 := fun i j hi hij hj => by rw [gC i hi (by omega), gC j (by omega) hj]; exact s1 _ _ (by omega) (by omega) (by omega)
    have sD : SortedIn lt' en b d1 := fun i j hi hij hj => by rw [gD i hi, gD j (by omega)]; exact s2 i j (by omega) hij hj
    have cross : ∀ i j, a ≤ i → i < mid → mid ≤ j → j < b → lt' d1[j]! d1[i]! = false := by
     intro i j hi hi2 hj hj2
     by_cases u : i < st
     ·
      by_cases v : j < en
      ·
       rw [gA i u, gC j hj v]
       exact s1 _ _ hi (by omega) (by omega)
      ·
       rw [gA i u, gD j (by omega)]
       exact x1 i j hi u (by omega) hj2
     ·
      by_cases v : j < en
      ·
       rw [gB i (by omega) hi2, gC j hj v]
       exact x2 _ _ (by omega) (by omega) (by omega) (by omega)
      ·
       rw [gB i (by omega) hi2, gD j (by omega)]
       exact s2 _ _ (by omega) (by omega) hj2
    obtain ⟨d2, hd2⟩ : ∃ d2, d2 = (if a < st ∧ st < mid then symM lt f a st mid d1 else d1) := ⟨_, rfl⟩
    have k2 : SortedIn lt' a mid d2 ∧ PermIn a mid d1 d2 := by
     rw [hd2]
     by_cases c : a < st ∧ st < mid
     ·
      rw [if_pos c]
      exact symM_spec hS hag f a st mid d1 (by omega) c.1 c.2 (by omega) sA sB (fun i j hi hi2 hj hj2 => by rw [gA i hi2, gB j hj hj2]; exact hR _ _ hi (by omega) (by omega) (by omega))
     ·
      rw [if_neg c]
      refine ⟨?_, permIn_refl _ _ _⟩
      by_cases e : st = a
      ·
       rw [← e]; exact sB
      ·
       rw [show mid = st by omega]; exact sA
    rw [← hd2]
    have z2 : d2.size = d1.size := k2.2.1
    have o2 : ∀ k, mid ≤ k → d2[k]! = d1[k]! := fun k h => k2.2.2.1 k (.inr h)
    have sC2 : SortedIn lt' mid en d2 := fun i j hi hij hj => by rw [o2 i hi, o2 j (by omega)]; exact sC i j hi hij hj
    have sD2 : SortedIn lt' en b d2 := fun i j hi hij hj => by rw [o2 i (by omega), o2 j (by omega)]; exact sD i j hi hij hj
    have cross2 : ∀ i j, a ≤ i → i < mid → mid ≤ j → j < b → lt' d2[j]! d2[i]! = false := by
     intro i j hi hi2 hj hj2
     rw [o2 j hj]
     exact permIn_all d1 d2 a mid (fun x => lt' d1[j]! x = false) (by omega) k2.2 (fun i hi hi2 => cross i j hi hi2 hj hj2) i hi hi2
    obtain ⟨d3, hd3⟩ : ∃ d3, d3 = (if mid < en ∧ en < b then symM lt f mid en b d2 else d2) := ⟨_, rfl⟩
    have k3 : SortedIn lt' mid b d3 ∧ PermIn mid b d2 d3 := by
     rw [hd3]
     by_cases c : mid < en ∧ en < b
     ·
      rw [if_pos c]
      exact symM_spec hS hag f mid en b d2 (by omega) c.1 c.2 (by omega) sC2 sD2 (fun i j hi hi2 hj hj2 => by rw [o2 i hi, o2 j (by omega), gC i hi hi2, gD j hj]; exact hR _ _ (by omega) (by omega) (by omega) hj2)
     ·
      rw [if_neg c]
      refine ⟨?_, permIn_refl _ _ _⟩
      by_cases e : en = mid
      ·
       rw [← e]; exact sD2
      ·
       rw [show b = en by omega]; exact sC2
    rw [← hd3]
    have o3 : ∀ k, k < mid → d3[k]! = d2[k]! := fun k h => k3.2.2.1 k (.inl h)
    refine ⟨sorted_join (fun i j hi hij hj => by rw [o3 i (by omega), o3 j hj]; exact k2.1 i j hi hij hj) k3.1 (fun i j hi hi2 hj hj2 => by
     rw [o3 i hi2]
     exact permIn_all d2 d3 mid b (fun x => lt' x d2[i]! = false) (by omega) k3.2 (fun j hj hj2 => cross2 i j hi hi2 hj hj2) j hj hj2), ?_⟩
    have m1 := permIn_mono d1 d2 a mid a b (Nat.le_refl _) (by omega) (by omega) k2.2
    have m2 := permIn_mono d2 d3 mid b a b (by omega) (Nat.le_refl _) (by omega) k3.2
    exact permIn_trans _ _ _ _ _ p1 (permIn_trans _ _ _ _ _ m1 m2)
end Go.Stb
end
section
namespace Go.Stb
open Go.Sort
variable {α : Type} [Inhabited α]
theorem insInner_perm (lt : α → α → Bool) (a : Nat) : ∀ (j : Nat) (d : Array α), a ≤ j → j < d.size → PermIn a (j + 1) d (insInner lt a j d)
  | 0, d, _, _ => permIn_refl _ _ _
  | j + 1, d, h1, h2 => by
    rw [insInner]
    by_cases c : (decide (j + 1 > a) && lt d[j + 1]! d[j]!) = true
    · rw [if_pos c]
      have hj : a ≤ j := by simp only [Bool.and_eq_true, decide_eq_true_eq] at c; omega
      have p1 : PermIn a (j + 1 + 1) d (swp d (j + 1) j) := swp_permIn _ _ _ _ _ (by omega) (by omega) hj (by omega) (by omega)
      exact permIn_trans _ _ _ _ _ p1 (permIn_mono _ _ a (j + 1) _ _ (Nat.le_refl _) (by omega) (by rw [swp_size]; omega) (insInner_perm lt a j _ hj (by rw [swp_size]; omega)))
    · rw [if_neg c]
      exact permIn_refl _ _ _
theorem insInner_agree {lt lt' : α → α → Bool} (a : Nat) : ∀ (j : Nat) (d : Array α), j < d.size → (∀ k, a ≤ k → k < j → lt d[j]! d[k]! = lt' d[j]! d[k]!) → insInner lt a j d = insInner lt' a j d
  | 0, d, _, _ => rfl
  | j + 1, d, h2, h => by
    rw [insInner, insInner]
    by_cases c : j + 1 > a
    · rw [h j (by omega) (by omega)]
      by_cases q : (decide (j + 1 > a) && lt' d[j + 1]! d[j]!) = true
      · rw [if_pos q, if_pos q]
        refine insInner_agree a j _ (by rw [swp_size]; omega) (fun k hk hkj => ?_)
        rw [swp_get _ (by omega) (by omega), swp_get _ (by omega) (by omega), if_pos rfl, if_neg (by omega), if_neg (by omega)]
        exact h k hk (by omega)
      · rw [if_neg q, if_neg q]
    · rw [decide_eq_false c, Bool.false_and, Bool.false_and, if_neg (by decide), if_neg (by decide)]
theorem insOuter_eq (lt : α → α → Bool) (a b i : Nat) (d : Array α) : insOuter lt a b i d = if i < b then insOuter lt a b (i + 1) (insInner lt a i d) else d := by rw [insOuter]
theorem insOuter_agree {lt lt' : α → α → Bool} {a b : Nat} {d0 : Array α} (hb : b ≤ d0.size) (h : ∀ p q, a ≤ p → p < q → q < b → lt d0[q]! d0[p]! = lt' d0[q]! d0[p]!) : ∀ (n i : Nat) (d : Array α), i + n = b → a < i → PermIn a i d0 d → insOuter lt a b i d = insOuter lt' a b i d
  | 0, i, d, hi, _, _ => by rw [insOuter_eq lt, insOuter_eq lt', if_neg (by omega), if_neg (by omega)]
  | n + 1, i, d, hi, ha, hp => by
    have hsz := hp.1
    rw [insOuter_eq lt, insOuter_eq lt', if_pos (by omega), if_pos (by omega)]
    have hag : ∀ k, a ≤ k → k < i → lt d[i]! d[k]! = lt' d[i]! d[k]! := by
      rw [hp.2.1 i (.inr (Nat.le_refl _))]
      exact permIn_all d0 d a i (fun x => lt d0[i]! x = lt' d0[i]! x) (by omega) hp (fun k hk hki => h k i hk hki (by omega))
    rw [insInner_agree a i d (by omega) hag]
    have p1 := permIn_mono d0 d a i a (i + 1) (Nat.le_refl _) (by omega) (by omega) hp
    exact insOuter_agree hb h n (i + 1) _ (by omega) (by omega) (permIn_trans _ _ _ _ _ p1 (insInner_perm lt' a i d (by omega) (by omega)))
theorem ins_agree {lt lt' : α → α → Bool} {a b : Nat} {d : Array α} (hb : b ≤ d.size) (h : ∀ p q, a ≤ p → p < q → q < b → lt d[q]! d[p]! = lt' d[q]! d[p]!) : insertionSort lt d a b = insertionSort lt' d a b := by
  unfold insertionSort
  by_cases c : a + 1 ≤ b
  · exact insOuter_agree hb h (b - (a + 1)) (a + 1) d (by omega) (by omega) (permIn_refl _ _ _)
  · rw [insOuter_eq lt, insOuter_eq lt', if_neg (by omega), if_neg (by omega)]
theorem insInner_size (lt : α → α → Bool) (a : Nat) : ∀ (j : Nat) (d : Array α), (insInner lt a j d).size = d.size
  | 0, _ => rfl
  | j + 1, d => by
    rw [insInner]
    split
    · rw [insInner_size lt a j, swp_size]
    · rfl
theorem insOuter_size (lt : α → α → Bool) (a b : Nat) : ∀ (n i : Nat) (d : Array α), b - i ≤ n → (insOuter lt a b i d).size = d.size
  | 0, i, d, h => by rw [insOuter_eq, if_neg (by omega)]
  | n + 1, i, d, h => by
    rw [insOuter_eq]
    split
    · rw [insOuter_size lt a b n (i + 1) _ (by omega), insInner_size]
    · rfl
theorem ins_size (lt : α → α → Bool) (d : Array α) (a b : Nat) : (insertionSort lt d a b).size = d.size := insOuter_size lt a b _ _ d (Nat.le_refl _)
theorem ins_none (lt : α → α → Bool) (d : Array α) (a : Nat) : insertionSort lt d a a = d := by
  unfold insertionSort
  rw [insOuter_eq, if_neg (by omega)]
def stb (lt : α → α → Bool) (d : Array α) : Array α :=
  if d.size ≤ 20 then insertionSort lt d 0 d.size else symM lt d.size 0 20 d.size (insertionSort lt (insertionSort lt d 0 20) 20 d.size)
variable {lt lt' : α → α → Bool} {R : α → α → Prop}
theorem stb_spec (hS : SWO lt') (hag : ∀ x y, R y x → lt x y = lt' x y) {d : Array α} (hR : ∀ p q, p < q → q < d.size → R d[p]! d[q]!) : SortedIn lt' 0 d.size (stb lt d) ∧ PermIn 0 d.size d (stb lt d) := by
  unfold stb
  have hlt : ∀ p q, p < q → q < d.size → lt d[q]! d[p]! = lt' d[q]! d[p]! := fun p q h1 h2 => hag _ _ (hR p q h1 h2)
  by_cases c : d.size ≤ 20
  · rw [if_pos c, ins_agree (lt' := lt') (Nat.le_refl _) (fun p q _ h1 h2 => hlt p q h1 h2)]
    have := insertionSort_holds (lt := lt') hS d 0 d.size (Nat.zero_le _) (Nat.le_refl _)
    exact ⟨this.2, this.1⟩
  · rw [if_neg c]
    rw [ins_agree (lt' := lt') (a := 0) (b := 20) (d := d) (by omega) (fun p q _ h1 h2 => hlt p q h1 (by omega))]
    obtain ⟨p1, s1⟩ := insertionSort_holds (lt := lt') hS d 0 20 (Nat.zero_le _) (by omega)
    obtain ⟨d1, hd1⟩ : ∃ d1, d1 = insertionSort lt' d 0 20 := ⟨_, rfl⟩
    rw [← hd1] at p1 s1 ⊢
    have z1 : d1.size = d.size := p1.1
    have o1 : ∀ k, 20 ≤ k → d1[k]! = d[k]! := fun k h => p1.2.1 k (.inr h)
    rw [ins_agree (lt' := lt') (a := 20) (b := d.size) (d := d1) (by omega) (fun p q h0 h1 h2 => by rw [o1 p h0, o1 q (by omega)]; exact hlt p q h1 h2)]
    obtain ⟨p2, s2⟩ := insertionSort_holds (lt := lt') hS d1 20 d.size (by omega) (by omega)
    obtain ⟨d2, hd2⟩ : ∃ d2, d2 = insertionSort lt' d1 20 d.size := ⟨_, rfl⟩
    rw [← hd2] at p2 s2 ⊢
    have z2 : d2.size = d1.size := p2.1
    have o2 : ∀ k, k < 20 → d2[k]! = d1[k]! := fun k h => p2.2.1 k (.inl h)
    have cross : ∀ i j, 0 ≤ i → i < 20 → 20 ≤ j → j < d.size → R d2[i]! d2[j]! := by
      intro i j hi hi2 hj hj2
      rw [o2 i hi2]
      refine permIn_all d1 d2 20 d.size (fun x => R d1[i]! x) (by omega) p2 (fun j hj hj2 => ?_) j hj hj2
      rw [o1 j hj]
      exact permIn_all d d1 0 20 (fun x => R x d[j]!) (by omega) p1 (fun i hi hi2 => hR i j (by omega) hj2) i hi hi2
    obtain ⟨q1, q2⟩ := symM_spec (lt := lt) (R := R) hS hag d.size 0 20 d.size d2 (by omega) (by omega) (by omega) (by omega) (fun i j hi hij hj => by rw [o2 i (by omega), o2 j hj]; exact s1 i j hi hij hj) s2 cross
    refine ⟨q1, ?_⟩
    have m1 := permIn_mono d d1 0 20 0 d.size (Nat.le_refl _) (by omega) (Nat.le_refl _) p1
    have m2 := permIn_mono d1 d2 20 d.size 0 d.size (by omega) (Nat.le_refl _) (by omega) p2
    exact permIn_trans _ _ _ _ _ m1 (permIn_trans _ _ _ _ _ m2 q2)
theorem stb_total (hS : SWO lt') (hT : ∀ x y, lt' x y = false → lt' y x = false → x = y) (hag : ∀ x y, R y x → lt x y = lt' x y) {d : Array α} (hR : ∀ p q, p < q → q < d.size → R d[p]! d[q]!) : (stb lt d).toList = d.toList.mergeSort (fun x y => !lt' y x) :=
  have h := stb_spec (R := R) hS hag hR
  sorted_unique_holds hS hT d _ h.2 h.1
end Go.Stb
end
