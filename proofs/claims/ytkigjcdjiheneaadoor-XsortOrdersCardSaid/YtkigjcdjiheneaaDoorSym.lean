/- The plain twin of slices.SortStableFunc's family (stable, symMerge, rotate, swapRange over an array) and that it puts a row of ascending tags into the order of 'less', equal ones by their tags. No condition but that 'less' is a strict weak order. -/
import Derived.Sort.LotA
namespace Go.Stab
open Go.Sort
variable {α : Type} [Inhabited α]

def bsearch (p : Nat → Bool) (i j : Nat) : Nat :=
  if i < j then (if p ((i + j) / 2) then bsearch p ((i + j) / 2 + 1) j else bsearch p i ((i + j) / 2)) else i
termination_by j - i

theorem bsearch_spec (p : Nat → Bool) (i j : Nat) (hij : i ≤ j) (mono : ∀ x y, i ≤ x → x ≤ y → y < j → p y = true → p x = true) :
    i ≤ bsearch p i j ∧ bsearch p i j ≤ j ∧ (∀ c, i ≤ c → c < bsearch p i j → p c = true) ∧ (∀ c, bsearch p i j ≤ c → c < j → p c = false) := by
  unfold bsearch
  by_cases h : i < j
  · rw [if_pos h]
    cases hp : p ((i + j) / 2) with
    | true =>
      rw [if_pos rfl]
      obtain ⟨h1, h2, h3, h4⟩ := bsearch_spec p ((i + j) / 2 + 1) j (by omega) (fun x y hx hxy hy => mono x y (by omega) hxy hy)
      refine ⟨by omega, h2, fun c hc hcr => ?_, h4⟩
      by_cases hcm : c ≤ (i + j) / 2
      · exact mono c ((i + j) / 2) hc hcm (by omega) hp
      · exact h3 c (by omega) hcr
    | false =>
      rw [if_neg (by simp)]
      obtain ⟨h1, h2, h3, h4⟩ := bsearch_spec p i ((i + j) / 2) (by omega) (fun x y hx hxy hy => mono x y hx hxy (by omega))
      refine ⟨h1, by omega, h3, fun c hc hcj => ?_⟩
      by_cases hcm : c < (i + j) / 2
      · exact h4 c hc hcm
      · cases hc2 : p c with
        | false => rfl
        | true =>
          have := mono ((i + j) / 2) c (by omega) (by omega) hcj hc2
          rw [hp] at this; cases this
  · rw [if_neg h]
    exact ⟨Nat.le_refl _, by omega, fun c h1 h2 => by omega, fun c h1 h2 => by omega⟩
termination_by j - i

/-- 'for k := ..; k < e; k++ { swap k, k+1 }', from k. -/
def moveUp (e k : Nat) (d : Array α) : Array α := if k < e then moveUp e (k + 1) (swp d k (k + 1)) else d
termination_by e - k

/-- 'for k := ..; k > i; k-- { swap k, k-1 }', from k. -/
def moveDown (i : Nat) : Nat → Array α → Array α
  | 0, d => d
  | k + 1, d => if k + 1 > i then moveDown i k (swp d (k + 1) k) else d

/-- 'for i := ..; i < n; i++ { swap a+i, b+i }', from i. -/
def swapR (a b n i : Nat) (d : Array α) : Array α := if i < n then swapR a b n (i + 1) (swp d (a + i) (b + i)) else d
termination_by n - i

/-- rotate's loop, from (i, j). (The guards '0 < j', '0 < i' always hold where it is called.) -/
def rotLoop (m i j : Nat) (d : Array α) : Array α :=
  if i = j then swapR (m - i) m i 0 d
  else if _h : 0 < j ∧ j < i then rotLoop m (i - j) j (swapR (m - i) m j 0 d)
  else if _h : 0 < i ∧ i < j then rotLoop m i (j - i) (swapR (m - i) (m + j - i) i 0 d)
  else d
termination_by i + j

section
variable (lt : α → α → Bool)
def symMerge : Nat → Array α → Nat → Nat → Nat → Array α
  | 0, d, _, _, _ => d
  | f + 1, d, a, m, b =>
    if m - a = 1 then moveUp (bsearch (fun h => lt d[h]! d[a]!) m b - 1) a d
    else if b - m = 1 then moveDown (bsearch (fun h => !lt d[m]! d[h]!) a m) m d
    else
      let mid := (a + b) / 2
      let s := bsearch (fun c => !lt d[mid + m - 1 - c]! d[c]!) (if mid < m then mid + m - b else a) (if mid < m then mid else m)
      let e := mid + m - s
      let d1 := if s < m ∧ m < e then rotLoop m (m - s) (e - m) d else d
      let d2 := if a < s ∧ s < mid then symMerge f d1 a s mid else d1
      if mid < e ∧ e < b then symMerge f d2 mid e b else d2

/-- the blocks of twenty, from (a, b). -/
def insBlocks (n a b : Nat) (d : Array α) : Array α :=
  if b ≤ n then insBlocks n b (b + 20) (insertionSort lt d a b) else insertionSort lt d a n
termination_by n + 1 - b

/-- one pass of merges, from (a, b). -/
def mergePass (bs n a b : Nat) (d : Array α) : Array α :=
  if _h : b ≤ n ∧ 0 < bs then mergePass bs n b (b + 2 * bs) (symMerge lt (b - a) d a (a + bs) b)
  else if a + bs < n then symMerge lt (n - a) d a (a + bs) n else d
termination_by n + 1 - b

def mergeAll (bs n : Nat) (d : Array α) : Array α :=
  if _h : bs < n ∧ 0 < bs then mergeAll (2 * bs) n (mergePass lt bs n 0 (2 * bs) d) else d
termination_by n - bs

def stable (n : Nat) (d : Array α) : Array α := mergeAll lt 20 n (insBlocks lt n 0 20 d)
end

/-! ### what the moves do, place by place -/
theorem swp_at (d : Array α) {i j : Nat} (hi : i < d.size) (hj : j < d.size) (k : Nat) :
    (swp d i j)[k]! = if k = j then d[i]! else if k = i then d[j]! else d[k]! := swp_get d hi hj k

theorem moveUp_size (e k : Nat) (d : Array α) : (moveUp e k d).size = d.size := by
  rw [moveUp]
  by_cases h : k < e
  · rw [if_pos h, moveUp_size, size_swp]
  · rw [if_neg h]
termination_by e - k

theorem moveUp_at (e k : Nat) (d : Array α) (he : e < d.size) (hk : k ≤ e) (x : Nat) :
    (moveUp e k d)[x]! = if x = e then d[k]! else if k ≤ x ∧ x < e then d[x + 1]! else d[x]! := by
  rw [moveUp]
  by_cases h : k < e
  · rw [if_pos h, moveUp_at e (k + 1) (swp d k (k + 1)) (by rw [size_swp]; exact he) (by omega) x]
    simp only [swp_at d (show k < d.size by omega) (show k + 1 < d.size by omega)]
    by_cases hx : x = e
    · subst hx; simp
    · by_cases hx2 : x = k
      · rw [if_neg hx, if_neg (by omega), if_neg (by omega), if_pos hx2, if_neg hx, if_pos (by omega), hx2]
      · by_cases hx3 : k < x ∧ x < e
        · rw [if_neg hx, if_pos (by omega), if_neg (by omega), if_neg (by omega), if_neg hx, if_pos (by omega)]
        · rw [if_neg hx, if_neg (by omega), if_neg hx, if_neg (show ¬ (k ≤ x ∧ x < e) by omega)]
          by_cases hx4 : x = k + 1
          · omega
          · rw [if_neg hx4, if_neg hx2]
  · rw [if_neg h]
    have : k = e := by omega
    subst this
    by_cases hx : x = k
    · subst hx; simp
    · rw [if_neg hx, if_neg (by omega)]
termination_by e - k

theorem moveUp_perm (e k : Nat) (d : Array α) (a b : Nat) (ha : a ≤ k) (he : e < b) (hb : b ≤ d.size) : PermIn a b d (moveUp e k d) := by
  rw [moveUp]
  by_cases h : k < e
  · rw [if_pos h]
    exact permIn_trans _ _ _ _ _ (swp_permIn d a b k (k + 1) ha (by omega) (by omega) (by omega) hb) (moveUp_perm e (k + 1) _ a b (by omega) he (by rw [size_swp]; exact hb))
  · rw [if_neg h]; exact permIn_refl _ _ _
termination_by e - k

theorem moveDown_at (i : Nat) : ∀ (k : Nat) (d : Array α), k < d.size → i ≤ k → ∀ x,
    (moveDown i k d)[x]! = if x = i then d[k]! else if i < x ∧ x ≤ k then d[x - 1]! else d[x]!
  | 0, d, hk, hi, x => by
    unfold moveDown
    have : i = 0 := by omega
    subst this
    by_cases hx : x = 0
    · subst hx; simp
    · rw [if_neg hx, if_neg (by omega)]
  | k + 1, d, hk, hi, x => by
    unfold moveDown
    by_cases h : k + 1 > i
    · rw [if_pos h, moveDown_at i k (swp d (k + 1) k) (by rw [size_swp]; omega) (by omega) x]
      have g := swp_at d hk (show k < d.size by omega)
      by_cases hx : x = i
      · rw [if_pos hx, if_pos hx, g k, if_pos rfl]
      · rw [if_neg hx, if_neg hx]
        by_cases hx2 : i < x ∧ x ≤ k
        · rw [if_pos hx2, if_pos (by omega), g (x - 1), if_neg (by omega), if_neg (by omega)]
        · rw [if_neg hx2, g x]
          by_cases hx3 : x = k + 1
          · rw [if_neg (by omega), if_pos hx3, if_pos (by omega), hx3]; rfl
          · rw [if_neg (by omega), if_neg hx3, if_neg (by omega)]
    · rw [if_neg h]
      have : i = k + 1 := by omega
      subst this
      by_cases hx : x = k + 1
      · subst hx; simp
      · rw [if_neg hx, if_neg (by omega)]

theorem moveDown_perm (i : Nat) : ∀ (k : Nat) (d : Array α) (a b : Nat), a ≤ i → k < b → b ≤ d.size → PermIn a b d (moveDown i k d)
  | 0, d, a, b, _, _, _ => permIn_refl _ _ _
  | k + 1, d, a, b, ha, hk, hb => by
    unfold moveDown
    by_cases h : k + 1 > i
    · rw [if_pos h]
      exact permIn_trans _ _ _ _ _ (swp_permIn d a b (k + 1) k (by omega) hk (by omega) (by omega) hb) (moveDown_perm i k _ a b ha (by omega) (by rw [size_swp]; exact hb))
    · rw [if_neg h]; exact permIn_refl _ _ _

theorem swapR_size (a b n i : Nat) (d : Array α) : (swapR a b n i d).size = d.size := by
  rw [swapR]
  by_cases h : i < n
  · rw [if_pos h, swapR_size, size_swp]
  · rw [if_neg h]
termination_by n - i

theorem swapR_at (a b n i : Nat) (d : Array α) (hd : a + n ≤ b) (hs : b + n ≤ d.size) (x : Nat) :
    (swapR a b n i d)[x]! = if a + i ≤ x ∧ x < a + n then d[b + (x - a)]! else if b + i ≤ x ∧ x < b + n then d[a + (x - b)]! else d[x]! := by
  rw [swapR]
  by_cases h : i < n
  · rw [if_pos h, swapR_at a b n (i + 1) (swp d (a + i) (b + i)) hd (by rw [size_swp]; exact hs) x]
    have g := swp_at d (show a + i < d.size by omega) (show b + i < d.size by omega)
    by_cases h1 : a + (i + 1) ≤ x ∧ x < a + n
    · rw [if_pos h1, if_pos (by omega), g (b + (x - a)), if_neg (by omega), if_neg (by omega)]
    · rw [if_neg h1]
      by_cases h2 : b + (i + 1) ≤ x ∧ x < b + n
      · rw [if_pos h2, if_neg (by omega), if_pos (by omega), g (a + (x - b)), if_neg (by omega), if_neg (by omega)]
      · rw [if_neg h2, g x]
        by_cases h3 : x = b + i
        · rw [if_pos h3, if_neg (by omega), if_pos (by omega), h3]
          congr 1; omega
        · rw [if_neg h3]
          by_cases h4 : x = a + i
          · rw [if_pos h4, if_pos (by omega), h4]
            congr 1; omega
          · rw [if_neg h4, if_neg (by omega), if_neg (by omega)]
  · rw [if_neg h, if_neg (by omega), if_neg (by omega)]
termination_by n - i

theorem swapR_perm (a b n i : Nat) (d : Array α) (lo hi : Nat) (hl : lo ≤ a) (hd : a ≤ b) (hh : b + n ≤ hi) (hs : hi ≤ d.size) : PermIn lo hi d (swapR a b n i d) := by
  rw [swapR]
  by_cases h : i < n
  · rw [if_pos h]
    exact permIn_trans _ _ _ _ _ (swp_permIn d lo hi (a + i) (b + i) (by omega) (by omega) (by omega) (by omega) hs) (swapR_perm a b n (i + 1) _ lo hi hl hd hh (by rw [size_swp]; exact hs))
  · rw [if_neg h]; exact permIn_refl _ _ _
termination_by n - i

theorem rotLoop_at (m i j : Nat) (d : Array α) (hi : 0 < i) (hj : 0 < j) (him : i ≤ m) (hs : m + j ≤ d.size) (x : Nat) :
    (rotLoop m i j d)[x]! = if m - i ≤ x ∧ x < m - i + j then d[x + i]! else if m - i + j ≤ x ∧ x < m + j then d[x - j]! else d[x]! := by
  rw [rotLoop]
  by_cases h : i = j
  · rw [if_pos h, swapR_at (m - i) m i 0 d (by omega) (by omega) x]
    subst h
    by_cases h1 : m - i ≤ x ∧ x < m - i + i
    · rw [if_pos (by omega), if_pos h1]; congr 1; omega
    · rw [if_neg (by omega), if_neg h1]
      by_cases h2 : m - i + i ≤ x ∧ x < m + i
      · rw [if_pos (by omega), if_pos h2]; congr 1; omega
      · rw [if_neg (by omega), if_neg h2]
  · rw [if_neg h]
    by_cases hlt : j < i
    · rw [dif_pos ⟨hj, hlt⟩, rotLoop_at m (i - j) j (swapR (m - i) m j 0 d) (by omega) hj (by omega) (by rw [swapR_size]; exact hs) x]
      simp only [swapR_at (m - i) m j 0 d (show m - i + j ≤ m by omega) hs]
      by_cases h1 : m - (i - j) ≤ x ∧ x < m - (i - j) + j
      · rw [if_pos h1, if_neg (by omega)]
        by_cases h5 : x < m - i + j
        · omega
        · by_cases h6 : m ≤ x + (i - j)
          · rw [if_pos (by omega), if_neg (by omega), if_pos (by omega)]; congr 1; omega
          · omega
      · rw [if_neg h1]
        by_cases h2 : m - (i - j) + j ≤ x ∧ x < m + j
        · rw [if_pos h2, if_neg (by omega), if_neg (by omega), if_neg (by omega), if_pos (by omega)]
        · rw [if_neg h2]
          by_cases h3 : m - i ≤ x ∧ x < m - i + j
          · rw [if_pos (by omega), if_pos h3]; congr 1; omega
          · rw [if_neg (by omega), if_neg (by omega), if_neg h3, if_neg (by omega)]
    · have hlt2 : i < j := by omega
      rw [dif_neg (by omega), dif_pos ⟨hi, hlt2⟩, rotLoop_at m i (j - i) (swapR (m - i) (m + j - i) i 0 d) hi (by omega) him (by rw [swapR_size]; omega) x]
      simp only [swapR_at (m - i) (m + j - i) i 0 d (show m - i + i ≤ m + j - i by omega) (show m + j - i + i ≤ d.size by omega)]
      by_cases h1 : m - i ≤ x ∧ x < m - i + (j - i)
      · rw [if_pos h1, if_neg (by omega), if_neg (by omega), if_pos (by omega)]
      · rw [if_neg h1]
        by_cases h2 : m - i + (j - i) ≤ x ∧ x < m + (j - i)
        · rw [if_pos h2]
          by_cases h3 : x < m - i + j
          · rw [if_pos (by omega), if_pos (by omega)]; congr 1; omega
          · omega
        · rw [if_neg h2]
          by_cases h3 : m + j - i ≤ x ∧ x < m + j
          · rw [if_neg (by omega), if_pos (by omega), if_neg (by omega), if_pos (by omega)]; congr 1; omega
          · rw [if_neg (by omega), if_neg (by omega), if_neg (by omega), if_neg (by omega)]
termination_by i + j

theorem rotLoop_perm (m i j : Nat) (d : Array α) (a b : Nat) (ha : a + i ≤ m) (hb : m + j ≤ b) (hs : b ≤ d.size) : PermIn a b d (rotLoop m i j d) := by
  rw [rotLoop]
  by_cases h : i = j
  · rw [if_pos h]; exact swapR_perm _ _ _ _ _ _ _ (by omega) (by omega) (by omega) hs
  · rw [if_neg h]
    by_cases h1 : 0 < j ∧ j < i
    · rw [dif_pos h1]
      exact permIn_trans _ _ _ _ _ (swapR_perm (m - i) m j 0 d a b (by omega) (by omega) (by omega) hs) (rotLoop_perm m (i - j) j _ a b (by omega) hb (by rw [swapR_size]; exact hs))
    · rw [dif_neg h1]
      by_cases h2 : 0 < i ∧ i < j
      · rw [dif_pos h2]
        exact permIn_trans _ _ _ _ _ (swapR_perm (m - i) (m + j - i) i 0 d a b (by omega) (by omega) (by omega) hs) (rotLoop_perm m i (j - i) _ a b ha (by omega) (by rw [swapR_size]; exact hs))
      · rw [dif_neg h2]; exact permIn_refl _ _ _
termination_by i + j

/-! ### 'less', equal ones by their tags -/
def ltT {β : Type} (tag : β → Nat) (lt : β → β → Bool) (x y : β) : Bool := lt x y || (!lt y x && decide (tag x < tag y))

variable {tag : α → Nat} {lt : α → α → Bool}

theorem ltT_false {β : Type} {tag : β → Nat} {lt : β → β → Bool} {x y : β} : ltT tag lt x y = false ↔ lt x y = false ∧ (lt y x = true ∨ tag y ≤ tag x) := by
  unfold ltT
  cases h1 : lt x y <;> cases h2 : lt y x <;> simp

theorem ltT_of_gt {β : Type} {tag : β → Nat} {lt : β → β → Bool} {x y : β} (h : tag y < tag x) : ltT tag lt x y = lt x y := by
  unfold ltT
  have : decide (tag x < tag y) = false := decide_eq_false (by omega)
  simp [this]

theorem ltT_swo {β : Type} {tag : β → Nat} {lt : β → β → Bool} (hS : SWO lt) : SWO (ltT tag lt) where
  irrefl x := ltT_false.2 ⟨hS.irrefl x, Or.inr (Nat.le_refl _)⟩
  ntrans x y z h1 h2 := by
    obtain ⟨a1, a2⟩ := ltT_false.1 h1
    obtain ⟨b1, b2⟩ := ltT_false.1 h2
    refine ltT_false.2 ⟨hS.ntrans _ _ _ a1 b1, ?_⟩
    cases hz : lt z x with
    | true => exact Or.inl rfl
    | false =>
      right
      rcases a2 with a2 | a2
      · have := hS.ntrans _ _ _ b1 hz
        rw [a2] at this; cases this
      · rcases b2 with b2 | b2
        · have := hS.ntrans _ _ _ hz a1
          rw [b2] at this; cases this
        · omega
  trans x y z h1 h2 := by
    cases h3 : ltT tag lt x z with
    | true => rfl
    | false =>
      exfalso
      obtain ⟨c1, c2⟩ := ltT_false.1 h3
      unfold ltT at h1 h2
      simp only [Bool.or_eq_true, Bool.and_eq_true, Bool.not_eq_true', decide_eq_true_eq] at h1 h2
      rcases h1 with h1 | ⟨h1, h1'⟩
      · rcases h2 with h2 | ⟨h2, h2'⟩
        · rw [hS.trans _ _ _ h1 h2] at c1; cases c1
        · have := hS.ntrans _ _ _ c1 h2
          rw [h1] at this; cases this
      · rcases h2 with h2 | ⟨h2, h2'⟩
        · have := hS.ntrans _ _ _ h1 c1
          rw [h2] at this; cases this
        · have := hS.ntrans _ _ _ h2 h1
          rcases c2 with c2 | c2
          · rw [this] at c2; cases c2
          · omega

theorem ltT_total {β : Type} {tag : β → Nat} {lt : β → β → Bool} {x y : β} (h1 : ltT tag lt x y = false) (h2 : ltT tag lt y x = false) : tag x = tag y := by
  obtain ⟨a1, a2⟩ := ltT_false.1 h1
  obtain ⟨b1, b2⟩ := ltT_false.1 h2
  rcases a2 with a2 | a2
  · rw [b1] at a2; cases a2
  · rcases b2 with b2 | b2
    · rw [a1] at b2; cases b2
    · omega

/-! ### the merge -/
def Sep (tag : α → Nat) (a m b : Nat) (d : Array α) : Prop := ∀ p q, a ≤ p → p < m → m ≤ q → q < b → tag d[p]! < tag d[q]!

/-- what the search finds and the rotation makes -/
theorem halves (d d1 : Array α) (a s mid m e b : Nat) (has : a ≤ s) (hsm : s ≤ m) (hme : m ≤ e) (heb : e ≤ b) (hse : s + e = mid + m)
    (hL : SortedIn (ltT tag lt) a m d) (hR : SortedIn (ltT tag lt) m b d) (hp : Sep tag a m b d)
    (c1 : ∀ x y, a ≤ x → x < s → e ≤ y → y < b → ltT tag lt d[y]! d[x]! = false) (c2 : ∀ x y, m ≤ x → x < e → s ≤ y → y < m → ltT tag lt d[y]! d[x]! = false)
    (h1 : ∀ x, d1[x]! = if s ≤ x ∧ x < mid then d[x + (m - s)]! else if mid ≤ x ∧ x < e then d[x - (e - m)]! else d[x]!) :
    SortedIn (ltT tag lt) a s d1 ∧ SortedIn (ltT tag lt) s mid d1 ∧ Sep tag a s mid d1 ∧ SortedIn (ltT tag lt) mid e d1 ∧ SortedIn (ltT tag lt) e b d1 ∧ Sep tag mid e b d1 ∧
      ∀ x y, a ≤ x → x < mid → mid ≤ y → y < b → ltT tag lt d1[y]! d1[x]! = false := by
  have g1 : ∀ x, x < s → d1[x]! = d[x]! := fun x hx => by rw [h1, if_neg (by omega), if_neg (by omega)]
  have g2 : ∀ x, s ≤ x → x < mid → d1[x]! = d[x + (m - s)]! := fun x h2 h3 => by rw [h1, if_pos ⟨h2, h3⟩]
  have g3 : ∀ x, mid ≤ x → x < e → d1[x]! = d[x - (e - m)]! := fun x h2 h3 => by rw [h1, if_neg (by omega), if_pos ⟨h2, h3⟩]
  have g4 : ∀ x, e ≤ x → d1[x]! = d[x]! := fun x hx => by rw [h1, if_neg (by omega), if_neg (by omega)]
  refine ⟨fun i j hi hij hj => ?_, fun i j hi hij hj => ?_, fun p q hp1 hp2 hq1 hq2 => ?_, fun i j hi hij hj => ?_, fun i j hi hij hj => ?_, fun p q hp1 hp2 hq1 hq2 => ?_, fun x y hx1 hx2 hy1 hy2 => ?_⟩
  · rw [g1 i (by omega), g1 j (by omega)]; exact hL i j hi hij (by omega)
  · rw [g2 i (by omega) (by omega), g2 j (by omega) (by omega)]; exact hR _ _ (by omega) (by omega) (by omega)
  · rw [g1 p (by omega), g2 q (by omega) (by omega)]; exact hp _ _ (by omega) (by omega) (by omega) (by omega)
  · rw [g3 i (by omega) (by omega), g3 j (by omega) (by omega)]; exact hL _ _ (by omega) (by omega) (by omega)
  · rw [g4 i (by omega), g4 j (by omega)]; exact hR _ _ (by omega) (by omega) (by omega)
  · rw [g3 p (by omega) (by omega), g4 q (by omega)]; exact hp _ _ (by omega) (by omega) (by omega) (by omega)
  · by_cases hxs : x < s
    · rw [g1 x hxs]
      by_cases hye : y < e
      · rw [g3 y hy1 hye]; exact hL _ _ (by omega) (by omega) (by omega)
      · rw [g4 y (by omega)]; exact c1 _ _ (by omega) hxs (by omega) hy2
    · rw [g2 x (by omega) hx2]
      by_cases hye : y < e
      · rw [g3 y hy1 hye]; exact c2 _ _ (by omega) (by omega) (by omega) (by omega)
      · rw [g4 y (by omega)]; exact hR _ _ (by omega) (by omega) (by omega)

theorem SortedIn.congr {l : α → α → Bool} {a b : Nat} {d d' : Array α} (h : SortedIn l a b d) (he : ∀ x, a ≤ x → x < b → d'[x]! = d[x]!) : SortedIn l a b d' := by
  intro i j hi hij hj
  rw [he i hi (by omega), he j (by omega) hj]
  exact h i j hi hij hj

theorem symMerge_spec (hS0 : SWO lt) : ∀ (f : Nat) (d : Array α) (a m b : Nat), b - a ≤ f → a < m → m < b → b ≤ d.size →
    SortedIn (ltT tag lt) a m d → SortedIn (ltT tag lt) m b d → Sep tag a m b d → PermIn a b d (symMerge lt f d a m b) ∧ SortedIn (ltT tag lt) a b (symMerge lt f d a m b) := by
  have hS := ltT_swo (tag := tag) hS0
  intro f
  induction f with
  | zero => intro d a m b hf ham hmb; omega
  | succ f ih =>
    intro d a m b hf ham hmb hb hL hR hp
    rw [symMerge]
    by_cases h1 : m - a = 1
    · rw [if_pos h1]
      have he : ∀ h, m ≤ h → h < b → lt d[h]! d[a]! = ltT tag lt d[h]! d[a]! := fun h hm hh => (ltT_of_gt (hp a h (Nat.le_refl _) ham hm hh)).symm
      obtain ⟨r1, r2, r3, r4⟩ := bsearch_spec (fun h => lt d[h]! d[a]!) m b (by omega) (fun x y hx hxy hy h => by
        show lt d[x]! d[a]! = true
        have h' : lt d[y]! d[a]! = true := h
        by_cases e : x = y
        · subst e; exact h'
        · rw [he y (by omega) hy] at h'
          rw [he x hx (by omega)]
          cases hx2 : ltT tag lt d[x]! d[a]! with
          | true => rfl
          | false =>
            rw [hS.ntrans _ _ _ (hR x y hx (by omega) hy) hx2] at h'
            cases h')
      generalize bsearch (fun h => lt d[h]! d[a]!) m b = r at r1 r2 r3 r4
      have g := moveUp_at (r - 1) a d (by omega) (by omega)
      refine ⟨moveUp_perm _ _ _ _ _ (Nat.le_refl _) (by omega) hb, fun i j hi hij hj => ?_⟩
      rw [g i, g j]
      by_cases hj1 : j = r - 1
      · rw [if_pos hj1, if_neg (by omega), if_pos (by omega)]
        have := r3 (i + 1) (by omega) (by omega)
        simp only [he (i + 1) (by omega) (by omega)] at this
        exact hS.asymmA this
      · rw [if_neg hj1]
        by_cases hj2 : j < r - 1
        · rw [if_pos (by omega), if_neg (by omega), if_pos (by omega)]
          exact hR _ _ (by omega) (by omega) (by omega)
        · rw [if_neg (by omega)]
          by_cases hi1 : i = r - 1
          · rw [if_pos hi1]
            have := r4 j (by omega) hj
            simp only [he j (by omega) hj] at this
            exact this
          · rw [if_neg hi1]
            by_cases hi2 : i < r - 1
            · rw [if_pos (by omega)]; exact hR _ _ (by omega) (by omega) hj
            · rw [if_neg (by omega)]; exact hR _ _ (by omega) (by omega) hj
    · rw [if_neg h1]
      by_cases h2 : b - m = 1
      · rw [if_pos h2]
        have he : ∀ h, a ≤ h → h < m → lt d[m]! d[h]! = ltT tag lt d[m]! d[h]! := fun h hm hh => (ltT_of_gt (hp h m hm hh (Nat.le_refl _) hmb)).symm
        obtain ⟨r1, r2, r3, r4⟩ := bsearch_spec (fun h => !lt d[m]! d[h]!) a m (by omega) (fun x y hx hxy hy h => by
          show (!lt d[m]! d[x]!) = true
          have h' : (!lt d[m]! d[y]!) = true := h
          by_cases e : x = y
          · subst e; exact h'
          · rw [he y (by omega) hy] at h'
            rw [he x hx (by omega)]
            simp only [Bool.not_eq_true'] at h' ⊢
            exact hS.ntrans _ _ _ h' (hL x y hx (by omega) hy))
        generalize bsearch (fun h => !lt d[m]! d[h]!) a m = r at r1 r2 r3 r4
        have g := moveDown_at r m d (by omega) (by omega)
        refine ⟨moveDown_perm _ _ _ _ _ r1 hmb hb, fun i j hi hij hj => ?_⟩
        rw [g i, g j]
        by_cases hj1 : j = r
        · rw [if_pos hj1, if_neg (by omega), if_neg (by omega)]
          have := r3 i hi (by omega)
          simp only [he i hi (by omega), Bool.not_eq_true'] at this
          exact this
        · rw [if_neg hj1]
          by_cases hj2 : r < j
          · rw [if_pos (by omega)]
            by_cases hi1 : i = r
            · rw [if_pos hi1]
              have := r4 (j - 1) (by omega) (by omega)
              simp only [he (j - 1) (by omega) (by omega), Bool.not_eq_false'] at this
              exact hS.asymmA this
            · rw [if_neg hi1]
              by_cases hi2 : r < i
              · rw [if_pos (by omega)]; exact hL _ _ (by omega) (by omega) (by omega)
              · rw [if_neg (by omega)]; exact hL _ _ (by omega) (by omega) (by omega)
          · rw [if_neg (by omega), if_neg (by omega), if_neg (by omega)]
            exact hL _ _ (by omega) (by omega) (by omega)
      · rw [if_neg h2]
        have hmid1 : a < (a + b) / 2 := by omega
        have hmid2 : (a + b) / 2 < b := by omega
        have hmid3 : 2 * ((a + b) / 2) ≤ a + b ∧ a + b ≤ 2 * ((a + b) / 2) + 1 := by omega
        simp only
        generalize (a + b) / 2 = mid at hmid1 hmid2 hmid3 ⊢
        obtain ⟨s0, hs0⟩ : ∃ s0, s0 = if mid < m then mid + m - b else a := ⟨_, rfl⟩
        obtain ⟨r0, hr0⟩ : ∃ r0, r0 = if mid < m then mid else m := ⟨_, rfl⟩
        rw [← hs0, ← hr0]
        -- where the search looks
        have hbd : a ≤ s0 ∧ s0 ≤ r0 ∧ r0 ≤ m ∧ r0 ≤ mid ∧ (∀ c, s0 ≤ c → c < r0 → m ≤ mid + m - 1 - c ∧ mid + m - 1 - c < b) ∧ (s0 = a ∨ mid + m - s0 = b) ∧ (r0 = m ∨ r0 = mid) ∧ mid + m - s0 ≤ b := by
          by_cases hm : mid < m
          · rw [if_pos hm] at hs0 hr0
            subst hs0; subst hr0
            exact ⟨by omega, by omega, by omega, by omega, fun c h1 h2 => ⟨by omega, by omega⟩, Or.inr (by omega), Or.inr rfl, by omega⟩
          · rw [if_neg hm] at hs0 hr0
            subst hs0; subst hr0
            exact ⟨by omega, by omega, by omega, by omega, fun c h1 h2 => ⟨by omega, by omega⟩, Or.inl rfl, Or.inl rfl, by omega⟩
        obtain ⟨b1, b2, b3, b4, b5, b6, b7, b8⟩ := hbd
        clear hs0 hr0
        have he : ∀ c, s0 ≤ c → c < r0 → lt d[mid + m - 1 - c]! d[c]! = ltT tag lt d[mid + m - 1 - c]! d[c]! := fun c h3 h4 =>
          (ltT_of_gt (hp c _ (by omega) (by omega) (b5 c h3 h4).1 (b5 c h3 h4).2)).symm
        obtain ⟨r1, r2, r3, r4⟩ := bsearch_spec (fun c => !lt d[mid + m - 1 - c]! d[c]!) s0 r0 b2 (fun x y hx hxy hy h => by
          show (!lt d[mid + m - 1 - x]! d[x]!) = true
          have h' : (!lt d[mid + m - 1 - y]! d[y]!) = true := h
          by_cases e : x = y
          · subst e; exact h'
          · rw [he y (by omega) hy] at h'
            rw [he x hx (by omega)]
            simp only [Bool.not_eq_true'] at h' ⊢
            have k1 := hL x y (by omega) (by omega) (by omega)
            have k2 := b5 y (by omega) hy
            have k3 := b5 x hx (by omega)
            have k4 := hR (mid + m - 1 - y) (mid + m - 1 - x) k2.1 (by omega) k3.2
            exact hS.ntrans _ _ _ k4 (hS.ntrans _ _ _ h' k1))
        generalize bsearch (fun c => !lt d[mid + m - 1 - c]! d[c]!) s0 r0 = s at r1 r2 r3 r4
        have c1 : ∀ x y, a ≤ x → x < s → mid + m - s ≤ y → y < b → ltT tag lt d[y]! d[x]! = false := fun x y hx1 hx2 hy1 hy2 => by
          by_cases e : s = s0
          · rcases b6 with b6 | b6
            · omega
            · omega
          · have k := r3 (s - 1) (by omega) (by omega)
            simp only [he (s - 1) (by omega) (by omega), Bool.not_eq_true'] at k
            rw [show mid + m - 1 - (s - 1) = mid + m - s by omega] at k
            have k2 : ltT tag lt d[y]! d[s - 1]! = false := by
              by_cases e2 : y = mid + m - s
              · rw [e2]; exact k
              · exact hS.ntrans _ _ _ (hR (mid + m - s) y (by omega) (by omega) hy2) k
            by_cases e3 : x = s - 1
            · rw [e3]; exact k2
            · exact hS.ntrans _ _ _ k2 (hL x (s - 1) hx1 (by omega) (by omega))
        have c2 : ∀ x y, m ≤ x → x < mid + m - s → s ≤ y → y < m → ltT tag lt d[y]! d[x]! = false := fun x y hx1 hx2 hy1 hy2 => by
          by_cases e : s = r0
          · rcases b7 with b7 | b7
            · omega
            · omega
          · have k := r4 s (Nat.le_refl _) (by omega)
            simp only [he s r1 (by omega), Bool.not_eq_false'] at k
            have k := hS.asymmA k
            rw [show mid + m - 1 - s = mid + m - s - 1 by omega] at k
            have k2 : ltT tag lt d[y]! d[mid + m - s - 1]! = false := by
              by_cases e2 : y = s
              · rw [e2]; exact k
              · exact hS.ntrans _ _ _ (hL s y (by omega) (by omega) hy2) k
            by_cases e3 : x = mid + m - s - 1
            · rw [e3]; exact k2
            · exact hS.ntrans _ _ _ k2 (hR x (mid + m - s - 1) hx1 (by omega) (by omega))
        obtain ⟨e, hee⟩ : ∃ e, e = mid + m - s := ⟨_, rfl⟩
        rw [← hee] at c1 c2 ⊢
        obtain ⟨d1, hd1⟩ : ∃ d1, d1 = if s < m ∧ m < e then rotLoop m (m - s) (e - m) d else d := ⟨_, rfl⟩
        rw [← hd1]
        have p1 : PermIn a b d d1 := by
          rw [hd1]
          by_cases h : s < m ∧ m < e
          · rw [if_pos h]; exact rotLoop_perm _ _ _ _ _ _ (by omega) (by omega) hb
          · rw [if_neg h]; exact permIn_refl _ _ _
        have g1 : ∀ x, d1[x]! = if s ≤ x ∧ x < mid then d[x + (m - s)]! else if mid ≤ x ∧ x < e then d[x - (e - m)]! else d[x]! := fun x => by
          rw [hd1]
          by_cases h : s < m ∧ m < e
          · rw [if_pos h, rotLoop_at m (m - s) (e - m) d (by omega) (by omega) (by omega) (by omega) x]
            rw [show m - (m - s) = s by omega, show s + (e - m) = mid by omega, show m + (e - m) = e by omega]
          · rw [if_neg h]
            by_cases hx1 : s ≤ x ∧ x < mid
            · rw [if_pos hx1]; congr 1; omega
            · rw [if_neg hx1]
              by_cases hx2 : mid ≤ x ∧ x < e
              · rw [if_pos hx2]; congr 1; omega
              · rw [if_neg hx2]
        clear hd1
        obtain ⟨q1, q2, q3, q4, q5, q6, q7⟩ := halves d d1 a s mid m e b (by omega) (by omega) (by omega) (by omega) (by omega) hL hR hp c1 c2 g1
        obtain ⟨d2, hd2⟩ : ∃ d2, d2 = if a < s ∧ s < mid then symMerge lt f d1 a s mid else d1 := ⟨_, rfl⟩
        rw [← hd2]
        have hb1 : b ≤ d1.size := by rw [p1.1]; exact hb
        have p2 : PermIn a mid d1 d2 ∧ SortedIn (ltT tag lt) a mid d2 := by
          rw [hd2]
          by_cases h : a < s ∧ s < mid
          · rw [if_pos h]; exact ih d1 a s mid (by omega) h.1 h.2 (by omega) q1 q2 q3
          · rw [if_neg h]
            refine ⟨permIn_refl _ _ _, ?_⟩
            by_cases hs1 : s = a
            · rw [← hs1]; exact q2
            · have : s = mid := by omega
              rw [← this]; exact q1
        clear hd2
        have hb2 : b ≤ d2.size := by rw [p2.1.1]; exact hb1
        have o2 : ∀ x, mid ≤ x → d2[x]! = d1[x]! := fun x hx => p2.1.2.1 x (Or.inr hx)
        have q4' : SortedIn (ltT tag lt) mid e d2 := SortedIn.congr q4 (fun x hx _ => o2 x hx)
        have q5' : SortedIn (ltT tag lt) e b d2 := SortedIn.congr q5 (fun x hx _ => o2 x (by omega))
        have q6' : Sep tag mid e b d2 := fun p q x1 x2 x3 x4 => by rw [o2 p x1, o2 q (by omega)]; exact q6 p q x1 x2 x3 x4
        obtain ⟨d3, hd3⟩ : ∃ d3, d3 = if mid < e ∧ e < b then symMerge lt f d2 mid e b else d2 := ⟨_, rfl⟩
        rw [← hd3]
        have p3 : PermIn mid b d2 d3 ∧ SortedIn (ltT tag lt) mid b d3 := by
          rw [hd3]
          by_cases h : mid < e ∧ e < b
          · rw [if_pos h]; exact ih d2 mid e b (by omega) h.1 h.2 hb2 q4' q5' q6'
          · rw [if_neg h]
            refine ⟨permIn_refl _ _ _, ?_⟩
            by_cases hs1 : e = mid
            · rw [← hs1]; exact q5'
            · have : e = b := by omega
              rw [← this]; exact q4'
        clear hd3
        have o3 : ∀ x, x < mid → d3[x]! = d2[x]! := fun x hx => p3.1.2.1 x (Or.inl hx)
        refine ⟨permIn_trans _ _ _ _ _ p1 (permIn_trans _ _ _ _ _ (permIn_mono _ _ _ _ _ _ (Nat.le_refl _) (by omega) hb1 p2.1) (permIn_mono _ _ _ _ _ _ (by omega) (Nat.le_refl _) hb2 p3.1)), ?_⟩
        have x2 : ∀ x, a ≤ x → x < mid → ∀ y, mid ≤ y → y < b → ltT tag lt d2[y]! d2[x]! = false := fun x hx1 hx2 y hy1 hy2 => by
          rw [o2 y hy1]
          exact permIn_all d1 d2 a mid (fun v => ltT tag lt d1[y]! v = false) (by omega) p2.1 (fun i hi1 hi2 => q7 i y hi1 hi2 hy1 hy2) x hx1 hx2
        have x3 : ∀ x, a ≤ x → x < mid → ∀ y, mid ≤ y → y < b → ltT tag lt d3[y]! d3[x]! = false := fun x hx1 hx2 y hy1 hy2 => by
          rw [o3 x hx2]
          exact permIn_all d2 d3 mid b (fun v => ltT tag lt v d2[x]! = false) hb2 p3.1 (fun i hi1 hi2 => x2 x hx1 hx2 i hi1 hi2) y hy1 hy2
        intro i j hi hij hj
        by_cases hjm : j < mid
        · rw [o3 i (by omega), o3 j hjm]; exact p2.2 i j hi hij hjm
        · by_cases him : i < mid
          · exact x3 i hi him j (by omega) hj
          · exact p3.2 i j (by omega) hij hj

/-! ### the blocks: the insertion sort on ascending tags is that of 'less by tags' -/
theorem insInner_perm {l : α → α → Bool} (a b : Nat) : ∀ (j : Nat) (d : Array α), a ≤ j → j < b → b ≤ d.size → PermIn a b d (insInner l a j d)
  | 0, d, _, _, _ => by unfold insInner; exact permIn_refl _ _ _
  | j + 1, d, haj, hjb, hb => by
    unfold insInner
    split
    · rename_i hc
      simp only [Bool.and_eq_true, decide_eq_true_eq] at hc
      exact permIn_trans _ _ _ _ _ (swp_permIn d a b (j + 1) j haj hjb (by omega) (by omega) hb) (insInner_perm a b j _ (by omega) (by omega) (by rw [size_swp]; exact hb))
    · exact permIn_refl _ _ _

theorem insInner_tags (a : Nat) : ∀ (j : Nat) (d : Array α), j < d.size → (∀ x, a ≤ x → x < j → tag d[x]! < tag d[j]!) → insInner lt a j d = insInner (ltT tag lt) a j d
  | 0, d, _, _ => by unfold insInner; rfl
  | j + 1, d, hj, h => by
    unfold insInner
    by_cases haj : j + 1 > a
    · rw [ltT_of_gt (h j (by omega) (by omega))]
      have := insInner_tags a j (swp d (j + 1) j) (by rw [size_swp]; omega) (fun x hx1 hx2 => by
        rw [swp_at d hj (by omega) x, swp_at d hj (by omega) j, if_neg (by omega), if_neg (by omega), if_pos rfl]
        exact h x hx1 (by omega))
      rw [this]
    · rw [if_neg (by simp; omega), if_neg (by simp; omega)]

theorem insOuter_tags (a b : Nat) : ∀ (n i : Nat) (d : Array α), b - i = n → a ≤ i → b ≤ d.size → (∀ x y, a ≤ x → x < y → i ≤ y → y < b → tag d[x]! < tag d[y]!) →
    insOuter lt a b i d = insOuter (ltT tag lt) a b i d
  | 0, i, d, hn, _, _, _ => by
    rw [insOuter, if_neg (by omega), insOuter, if_neg (by omega)]
  | n + 1, i, d, hn, hai, hb, h => by
    rw [insOuter, if_pos (by omega)]
    conv => rhs; rw [insOuter, if_pos (show i < b by omega)]
    rw [← insInner_tags a i d (by omega) (fun x hx1 hx2 => h x i hx1 hx2 (Nat.le_refl _) (by omega))]
    have hp := insInner_perm (l := lt) a (i + 1) i d hai (by omega) (by omega)
    refine insOuter_tags a b n (i + 1) _ (by omega) (by omega) (by rw [hp.1]; exact hb) (fun x y hx hxy hy hyb => ?_)
    rw [hp.2.1 y (Or.inr hy)]
    by_cases hxi : x < i + 1
    · exact permIn_all d _ a (i + 1) (fun v => tag v < tag d[y]!) (by omega) hp (fun k hk1 hk2 => h k y hk1 (by omega) (by omega) hyb) x hx hxi
    · rw [hp.2.1 x (Or.inr (by omega))]; exact h x y hx hxy (by omega) hyb

theorem insertionSort_tags (hS : SWO lt) (d : Array α) (a b : Nat) (hab : a ≤ b) (hb : b ≤ d.size) (h : ∀ x y, a ≤ x → x < y → y < b → tag d[x]! < tag d[y]!) :
    PermIn a b d (insertionSort lt d a b) ∧ SortedIn (ltT tag lt) a b (insertionSort lt d a b) := by
  have e : insertionSort lt d a b = insertionSort (ltT tag lt) d a b := insOuter_tags a b _ (a + 1) d rfl (by omega) hb (fun x y hx hxy _ hy => h x y hx hxy hy)
  rw [e]
  exact insertionSort_holds (ltT_swo hS) d a b hab hb

/-! ### blocks of so many, in order -/
structure Good (tag : α → Nat) (lt : α → α → Bool) (bs n : Nat) (d : Array α) : Prop where
  srt : ∀ k, SortedIn (ltT tag lt) (k * bs) (min (k * bs + bs) n) d
  sep : ∀ k p q, p < k * bs → k * bs ≤ q → q < n → tag d[p]! < tag d[q]!

theorem blk (c k j : Nat) : k * c + c ≤ j * c ∨ k = j ∨ j * c + c ≤ k * c := by
  rcases Nat.lt_trichotomy k j with h | h | h
  · left; have := Nat.mul_le_mul_right c (show k + 1 ≤ j by omega); rwa [Nat.succ_mul] at this
  · right; left; exact h
  · right; right; have := Nat.mul_le_mul_right c (show j + 1 ≤ k by omega); rwa [Nat.succ_mul] at this

theorem insBlocks_spec (hS : SWO lt) (n : Nat) : ∀ (r j : Nat) (d : Array α), n + 1 - (j * 20 + 20) ≤ r → d.size = n → j * 20 ≤ n →
    (∀ k, k * 20 < j * 20 → SortedIn (ltT tag lt) (k * 20) (min (k * 20 + 20) n) d) → (∀ p q, p < q → j * 20 ≤ q → q < n → tag d[p]! < tag d[q]!) →
    (∀ k p q, p < k * 20 → k * 20 ≤ q → q < n → tag d[p]! < tag d[q]!) → PermIn 0 n d (insBlocks lt n (j * 20) (j * 20 + 20) d) ∧ Good tag lt 20 n (insBlocks lt n (j * 20) (j * 20 + 20) d) := by
  -- one block's step
  have step : ∀ (j b : Nat) (d : Array α), d.size = n → j * 20 ≤ b → b ≤ n → b ≤ j * 20 + 20 → (b = j * 20 + 20 ∨ b = n) →
      (∀ k, k * 20 < j * 20 → SortedIn (ltT tag lt) (k * 20) (min (k * 20 + 20) n) d) → (∀ p q, p < q → j * 20 ≤ q → q < n → tag d[p]! < tag d[q]!) →
      (∀ k p q, p < k * 20 → k * 20 ≤ q → q < n → tag d[p]! < tag d[q]!) →
      PermIn 0 n d (insertionSort lt d (j * 20) b) ∧ (insertionSort lt d (j * 20) b).size = n ∧
      (∀ k, k * 20 < j * 20 + 20 → SortedIn (ltT tag lt) (k * 20) (min (k * 20 + 20) n) (insertionSort lt d (j * 20) b)) ∧ (∀ p q, p < q → b ≤ q → q < n → tag (insertionSort lt d (j * 20) b)[p]! < tag (insertionSort lt d (j * 20) b)[q]!) ∧
      (∀ k p q, p < k * 20 → k * 20 ≤ q → q < n → tag (insertionSort lt d (j * 20) b)[p]! < tag (insertionSort lt d (j * 20) b)[q]!) := by
    intro j b d hd hjb hbn hb2 hb3 h1 h2 h3
    obtain ⟨hp, hs⟩ := insertionSort_tags hS d (j * 20) b hjb (by omega) (fun x y hx hxy hy => h2 x y hxy (by omega) (by omega))
    generalize insertionSort lt d (j * 20) b = d' at hp hs
    have up : ∀ q, b ≤ q → q < n → ∀ p, p < q → tag d'[p]! < tag d[q]! := fun q hq hqn p hpq => by
      by_cases hpa : p < j * 20
      · rw [hp.2.1 p (Or.inl hpa)]; exact h2 p q hpq (by omega) hqn
      · by_cases hpb : p < b
        · exact permIn_all d d' (j * 20) b (fun v => tag v < tag d[q]!) (by omega) hp (fun i hi1 hi2 => h2 i q (by omega) (by omega) hqn) p (by omega) hpb
        · rw [hp.2.1 p (Or.inr (by omega))]; exact h2 p q hpq (by omega) hqn
    refine ⟨permIn_mono _ _ _ _ _ _ (by omega) hbn (by omega) hp, by rw [hp.1]; exact hd, fun k hk => ?_, fun p q hpq hq hqn => ?_, fun k p q hpk hkq hqn => ?_⟩
    · by_cases hkj : k * 20 < j * 20
      · refine SortedIn.congr (h1 k hkj) (fun x hx1 hx2 => hp.2.1 x (Or.inl ?_))
        omega
      · have e1 : k * 20 = j * 20 := by omega
        rw [e1]
        have e2 : min (j * 20 + 20) n = b := by omega
        rw [e2]; exact hs
    · rw [hp.2.1 q (Or.inr hq)]; exact up q hq hqn p hpq
    · by_cases hkj : k * 20 ≤ j * 20
      · rw [hp.2.1 p (Or.inl (by omega))]
        by_cases hq : q < j * 20
        · rw [hp.2.1 q (Or.inl hq)]; exact h3 k p q hpk hkq hqn
        · by_cases hqb : q < b
          · exact permIn_all d d' (j * 20) b (fun v => tag d[p]! < tag v) (by omega) hp (fun i hi1 hi2 => h2 p i (by omega) (by omega) (by omega)) q (by omega) hqb
          · rw [hp.2.1 q (Or.inr (by omega))]; exact h2 p q (by omega) (by omega) hqn
      · have : b ≤ q := by omega
        rw [hp.2.1 q (Or.inr this)]; exact up q this hqn p (by omega)
  intro r
  induction r with
  | zero =>
    intro j d hr hd hjn h1 h2 h3
    obtain ⟨k0, k1, k2, k3, k4⟩ := step j n d hd hjn (Nat.le_refl _) (by omega) (Or.inr rfl) h1 h2 h3
    rw [insBlocks, if_neg (by omega)]
    refine ⟨k0, ⟨fun k => ?_, k4⟩⟩
    by_cases hk : k * 20 < j * 20 + 20
    · exact k2 k hk
    · intro x y hx hxy hy; omega
  | succ r ih =>
    intro j d hr hd hjn h1 h2 h3
    by_cases hbn : j * 20 + 20 ≤ n
    · obtain ⟨k0, k1, k2, k3, k4⟩ := step j (j * 20 + 20) d hd (by omega) hbn (Nat.le_refl _) (Or.inl rfl) h1 h2 h3
      rw [insBlocks, if_pos hbn]
      generalize insertionSort lt d (j * 20) (j * 20 + 20) = d' at k0 k1 k2 k3 k4 ⊢
      have e : j * 20 + 20 = (j + 1) * 20 := by omega
      obtain ⟨m1, m2⟩ := ih (j + 1) d' (by omega) k1 (by omega) (fun k hk => k2 k (by omega)) (fun p q hpq hq => k3 p q hpq (by omega)) k4
      rw [e]
      exact ⟨permIn_trans _ _ _ _ _ k0 m1, m2⟩
    · obtain ⟨k0, k1, k2, k3, k4⟩ := step j n d hd hjn (Nat.le_refl _) (by omega) (Or.inr rfl) h1 h2 h3
      rw [insBlocks, if_neg hbn]
      refine ⟨k0, ⟨fun k => ?_, k4⟩⟩
      by_cases hk : k * 20 < j * 20 + 20
      · exact k2 k hk
      · intro x y hx hxy hy; omega

/-- what holds within a pass: blocks of 2 bs ahead of a, blocks of bs from a on. -/
structure Mid (tag : α → Nat) (lt : α → α → Bool) (bs n a : Nat) (d : Array α) : Prop where
  size : d.size = n
  done : ∀ k, k * (2 * bs) < a → SortedIn (ltT tag lt) (k * (2 * bs)) (min (k * (2 * bs) + 2 * bs) n) d
  left : ∀ k, a ≤ k * bs → SortedIn (ltT tag lt) (k * bs) (min (k * bs + bs) n) d
  sep2 : ∀ k p q, p < k * (2 * bs) → k * (2 * bs) ≤ q → q < n → tag d[p]! < tag d[q]!
  sep1 : ∀ k p q, a ≤ k * bs → p < k * bs → k * bs ≤ q → q < n → tag d[p]! < tag d[q]!

/-- one merge within a pass: [a, b) = two blocks, the second perhaps short. -/
theorem mergeStep (hS : SWO lt) (n bs j b : Nat) (d : Array α) (hb0 : j * (2 * bs) + bs < b) (hbn : b ≤ n) (hb2 : b ≤ j * (2 * bs) + 2 * bs) (hb3 : b = j * (2 * bs) + 2 * bs ∨ b = n) (hbs : 0 < bs) (f : Nat) (hf : b - j * (2 * bs) ≤ f)
    (h : Mid tag lt bs n (j * (2 * bs)) d) :
    PermIn 0 n d (symMerge lt f d (j * (2 * bs)) (j * (2 * bs) + bs) b) ∧ Mid tag lt bs n (j * (2 * bs) + 2 * bs) (symMerge lt f d (j * (2 * bs)) (j * (2 * bs) + bs) b) := by
  obtain ⟨hd, h1, h2, h3, h4⟩ := h
  have ea : (2 * j) * bs = j * (2 * bs) := by rw [Nat.mul_comm 2 j, Nat.mul_assoc]
  have eb : (2 * j + 1) * bs = j * (2 * bs) + bs := by rw [Nat.succ_mul, ea]
  have s1 : SortedIn (ltT tag lt) (j * (2 * bs)) (j * (2 * bs) + bs) d := by
    have := h2 (2 * j) (by omega)
    rw [ea, show min (j * (2 * bs) + bs) n = j * (2 * bs) + bs by omega] at this
    exact this
  have s2 : SortedIn (ltT tag lt) (j * (2 * bs) + bs) b d := by
    have := h2 (2 * j + 1) (by omega)
    rw [eb, show min (j * (2 * bs) + bs + bs) n = b by omega] at this
    exact this
  have sp : Sep tag (j * (2 * bs)) (j * (2 * bs) + bs) b d := fun p q hp1 hp2 hq1 hq2 => h4 (2 * j + 1) p q (by omega) (by omega) (by omega) (by omega)
  obtain ⟨hp, hs⟩ := symMerge_spec hS f d (j * (2 * bs)) (j * (2 * bs) + bs) b hf (by omega) hb0 (by omega) s1 s2 sp
  have hblk : ∀ k, k * (2 * bs) + 2 * bs ≤ j * (2 * bs) ∨ k * (2 * bs) = j * (2 * bs) ∨ j * (2 * bs) + 2 * bs ≤ k * (2 * bs) := fun k => by
    rcases blk (2 * bs) k j with h | h | h
    · exact Or.inl h
    · exact Or.inr (Or.inl (by rw [h]))
    · exact Or.inr (Or.inr h)
  have hA : ∀ p q, p < j * (2 * bs) → j * (2 * bs) ≤ q → q < n → tag d[p]! < tag d[q]! := h3 j
  have hB : ∀ p q, p < j * (2 * bs) + 2 * bs → j * (2 * bs) + 2 * bs ≤ q → q < n → tag d[p]! < tag d[q]! := fun p q => by
    have := h3 (j + 1) p q
    rwa [Nat.succ_mul] at this
  generalize j * (2 * bs) = a at *
  generalize symMerge lt f d a (a + bs) b = d' at hp hs ⊢
  have hsep : ∀ p q, p < q → q < n → (q < a ∨ a + 2 * bs ≤ q ∨ p < a) → (p < a ∨ b ≤ p ∨ a + 2 * bs ≤ q ∨ q < a) → tag d[p]! < tag d[q]! → tag d'[p]! < tag d'[q]! := fun p q hpq hqn hc1 hc2 h => by
    by_cases hq1 : a ≤ q ∧ q < b
    · have hpa : p < a := by omega
      rw [hp.2.1 p (Or.inl hpa)]
      exact permIn_all d d' a b (fun v => tag d[p]! < tag v) (by omega) hp (fun i hi1 hi2 => hA p i hpa hi1 (by omega)) q hq1.1 hq1.2
    · rw [hp.2.1 q (by omega)]
      by_cases hp1 : a ≤ p ∧ p < b
      · exact permIn_all d d' a b (fun v => tag v < tag d[q]!) (by omega) hp (fun i hi1 hi2 => hB i q (by omega) (by omega) hqn) p hp1.1 hp1.2
      · rw [hp.2.1 p (by omega)]; exact h
  refine ⟨permIn_mono _ _ _ _ _ _ (by omega) hbn (by omega) hp, by rw [hp.1]; exact hd, fun k hk => ?_, fun k hk => ?_, fun k p q hpk hkq hqn => ?_, fun k p q hk hpk hkq hqn => ?_⟩
  · rcases hblk k with h | h | h
    · exact SortedIn.congr (h1 k (by omega)) (fun x hx1 hx2 => hp.2.1 x (Or.inl (by omega)))
    · rw [h, show min (a + 2 * bs) n = b by omega]; exact hs
    · omega
  · exact SortedIn.congr (h2 k (by omega)) (fun x hx1 hx2 => hp.2.1 x (Or.inr (by omega)))
  · rcases hblk k with h | h | h
    · exact hsep p q (by omega) hqn (by omega) (by omega) (h3 k p q hpk hkq hqn)
    · exact hsep p q (by omega) hqn (by omega) (by omega) (h3 k p q hpk hkq hqn)
    · exact hsep p q (by omega) hqn (by omega) (by omega) (h3 k p q hpk hkq hqn)
  · exact hsep p q (by omega) hqn (by omega) (by omega) (h4 k p q (by omega) hpk hkq hqn)

theorem mergePass_spec (hS : SWO lt) (n bs : Nat) (hbs : 0 < bs) : ∀ (r j : Nat) (d : Array α), n + 1 - (j * (2 * bs) + 2 * bs) ≤ r → Mid tag lt bs n (j * (2 * bs)) d →
    PermIn 0 n d (mergePass lt bs n (j * (2 * bs)) (j * (2 * bs) + 2 * bs) d) ∧ Good tag lt (2 * bs) n (mergePass lt bs n (j * (2 * bs)) (j * (2 * bs) + 2 * bs) d) := by
  -- the last merge, or none
  have last : ∀ (j : Nat) (d : Array α), n < j * (2 * bs) + 2 * bs → Mid tag lt bs n (j * (2 * bs)) d →
      PermIn 0 n d (if j * (2 * bs) + bs < n then symMerge lt (n - j * (2 * bs)) d (j * (2 * bs)) (j * (2 * bs) + bs) n else d) ∧ Good tag lt (2 * bs) n (if j * (2 * bs) + bs < n then symMerge lt (n - j * (2 * bs)) d (j * (2 * bs)) (j * (2 * bs) + bs) n else d) := by
    intro j d hn hM
    by_cases h : j * (2 * bs) + bs < n
    · rw [if_pos h]
      obtain ⟨m1, m2⟩ := mergeStep hS n bs j n d h (Nat.le_refl _) (by omega) (Or.inr rfl) hbs _ (Nat.le_refl _) hM
      refine ⟨m1, ⟨fun k => ?_, m2.sep2⟩⟩
      by_cases hk : k * (2 * bs) < j * (2 * bs) + 2 * bs
      · exact m2.done k hk
      · intro x y hx hxy hy; omega
    · rw [if_neg h]
      refine ⟨permIn_refl _ _ _, ⟨fun k => ?_, hM.sep2⟩⟩
      rcases blk (2 * bs) k j with hk | hk | hk
      · exact hM.done k (by omega)
      · rw [hk]
        have ea : (2 * j) * bs = j * (2 * bs) := by rw [Nat.mul_comm 2 j, Nat.mul_assoc]
        have := hM.left (2 * j) (by omega)
        rw [ea] at this
        intro x y hx hxy hy
        exact this x y hx hxy (by omega)
      · intro x y hx hxy hy; omega
  intro r
  induction r with
  | zero =>
    intro j d hr hM
    rw [mergePass, dif_neg (by omega)]
    exact last j d (by omega) hM
  | succ r ih =>
    intro j d hr hM
    by_cases hb : j * (2 * bs) + 2 * bs ≤ n
    · rw [mergePass, dif_pos ⟨hb, hbs⟩, show j * (2 * bs) + 2 * bs - j * (2 * bs) = 2 * bs by omega]
      obtain ⟨m1, m2⟩ := mergeStep hS n bs j (j * (2 * bs) + 2 * bs) d (by omega) hb (Nat.le_refl _) (Or.inl rfl) hbs (2 * bs) (by omega) hM
      generalize symMerge lt (2 * bs) d (j * (2 * bs)) (j * (2 * bs) + bs) (j * (2 * bs) + 2 * bs) = d' at m1 m2 ⊢
      have e : j * (2 * bs) + 2 * bs = (j + 1) * (2 * bs) := (Nat.succ_mul j (2 * bs)).symm
      rw [e] at m2 hr ⊢
      obtain ⟨k1, k2⟩ := ih (j + 1) d' (by omega) m2
      exact ⟨permIn_trans _ _ _ _ _ m1 k1, k2⟩
    · rw [mergePass, dif_neg (by omega)]
      exact last j d (by omega) hM

theorem mergeAll_spec (hS : SWO lt) (n : Nat) : ∀ (r bs : Nat) (d : Array α), n - bs ≤ r → 0 < bs → d.size = n → Good tag lt bs n d →
    PermIn 0 n d (mergeAll lt bs n d) ∧ SortedIn (ltT tag lt) 0 n (mergeAll lt bs n d) := by
  have stop : ∀ (bs : Nat) (d : Array α), n ≤ bs → Good tag lt bs n d → SortedIn (ltT tag lt) 0 n d := fun bs d hb hG => by
    have := hG.srt 0
    rw [Nat.zero_mul, show min (0 + bs) n = n by omega] at this
    exact this
  intro r
  induction r with
  | zero =>
    intro bs d hr hbs hd hG
    rw [mergeAll, dif_neg (by omega)]
    exact ⟨permIn_refl _ _ _, stop bs d (by omega) hG⟩
  | succ r ih =>
    intro bs d hr hbs hd hG
    by_cases h : bs < n
    · rw [mergeAll, dif_pos ⟨h, hbs⟩]
      have hM : Mid tag lt bs n (0 * (2 * bs)) d := ⟨hd, fun k hk => by omega, fun k _ => hG.srt k, fun k p q => by
        have := hG.sep (2 * k) p q
        rw [show 2 * k * bs = k * (2 * bs) by rw [Nat.mul_comm 2 k, Nat.mul_assoc]] at this
        exact this, fun k p q _ => hG.sep k p q⟩
      have hm := mergePass_spec hS n bs hbs n 0 d (by omega) hM
      rw [Nat.zero_mul, Nat.zero_add] at hm
      obtain ⟨k1, k2⟩ := ih (2 * bs) _ (by omega) (by omega) (by rw [hm.1.1]; exact hd) hm.2
      exact ⟨permIn_trans _ _ _ _ _ hm.1 k1, k2⟩
    · rw [mergeAll, dif_neg (by omega)]
      exact ⟨permIn_refl _ _ _, stop bs d (by omega) hG⟩

/-- WHAT THE STABLE SORT MAKES OF ASCENDING TAGS: a permutation, in the order of 'less', equal ones by their tags. -/
theorem stable_spec (hS : SWO lt) (n : Nat) (d : Array α) (hd : d.size = n) (h : ∀ p q, p < q → q < n → tag d[p]! < tag d[q]!) :
    PermIn 0 n d (stable lt n d) ∧ SortedIn (ltT tag lt) 0 n (stable lt n d) := by
  obtain ⟨h1, h2⟩ := insBlocks_spec hS n n 0 d (by omega) hd (by omega) (fun k hk => by omega) (fun p q hpq _ hq => h p q hpq hq) (fun k p q hp hq hqn => h p q (by omega) hqn)
  rw [show (0 * 20 : Nat) = 0 from rfl, Nat.zero_add] at h1 h2
  obtain ⟨h3, h4⟩ := mergeAll_spec hS n n 20 _ (by omega) (by omega) (by rw [h1.1]; exact hd) h2
  exact ⟨permIn_trans _ _ _ _ _ h1 h3, h4⟩

end Go.Stab
