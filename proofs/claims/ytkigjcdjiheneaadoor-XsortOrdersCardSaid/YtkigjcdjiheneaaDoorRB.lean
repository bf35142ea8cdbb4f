/- Rows of several keys, built by append, row by row: plain lemmas on worlds. -/
import Derived.Test.YtkigjcdjiheneaaDoorRig
namespace Go.Proofs.YtkigjcdjiheneaaDoor
open Go.RowKit Go.Sten Go.Lib Go.Shelf

def flat (ks : List KeyD) : List Value := ks.flatMap KeyD.cells
theorem flat_len (ks : List KeyD) : (flat ks).length = ks.length * 5 := by
  induction ks with
  | nil => rfl
  | cons k ks ih =>
    show (k.cells ++ flat ks).length = _
    rw [List.length_append, ih, List.length_cons]
    show 5 + _ = _
    omega
theorem flat_snoc (ks : List KeyD) (k : KeyD) : flat (ks ++ [k]) = flat ks ++ k.cells := by simp [flat, List.flatMap_append]
theorem flat_get (ks : List KeyD) : ∀ (j : Nat) (k : KeyD), ks[j]? = some k → ∀ (t : Nat) (v : Value), k.cells[t]? = some v → (flat ks)[j * 5 + t]? = some v := by
  induction ks with
  | nil => intro j k h; simp at h
  | cons k0 ks ih =>
    intro j k h t v hv
    show (k0.cells ++ flat ks)[j * 5 + t]? = _
    have l5 : k0.cells.length = 5 := rfl
    have ht : t < 5 := by
      have := (List.getElem?_eq_some_iff.1 hv).1
      exact this
    match j, h with
    | 0, h =>
      obtain rfl : k0 = k := by simpa using h
      rw [List.getElem?_append_left (by omega), Nat.zero_mul, Nat.zero_add]
      exact hv
    | j + 1, h =>
      rw [List.getElem?_append_right (by omega), show (j + 1) * 5 + t - k0.cells.length = j * 5 + t by omega]
      exact ih j k (by simpa using h) t v hv

section
variable {w w' : World} {B B' n m size size' : Nat} {e e' : TypeId} {v u : Value} {xs ys : List Value}
theorem own_block (h : w.ownsRow B e size v n xs) : v.ownBlock = none ∨ ∃ g cur, v.ownBlock = some g ∧ B ≤ g ∧ w.heap[g]? = some (.cells cur e (0, 0)) := by
  rcases h.2 with ⟨e1, _⟩ | ⟨g, cap, cur, e1, hb, hh, _⟩
  · left; rw [e1]; rfl
  · right; exact ⟨g, cur, by rw [e1]; rfl, hb, hh⟩
theorem own_ne (h : w.ownsRow B e size v n xs) (k : w.ownsRow B' e' size' u m ys) (hne : e ≠ e') : v.ownBlock = none ∨ v.ownBlock ≠ u.ownBlock := by
  rcases own_block h with h1 | ⟨g, cur, h1, _, h2⟩
  · exact Or.inl h1
  · right
    rcases own_block k with k1 | ⟨g', cur', k1, _, k2⟩
    · rw [h1, k1]; simp
    · rw [h1, k1]
      intro e3
      simp only [Option.some.injEq] at e3
      subst e3
      rw [h2] at k2
      simp only [Option.some.injEq, Obj.cells.injEq] at k2
      exact hne k2.2.1
theorem own_same (h : w.ownsRow B e size v n xs) (hs : ∀ g, v.ownBlock = some g → w'.heap[g]? = w.heap[g]?) : w'.ownsRow B e size v n xs := by
  refine ⟨h.1, ?_⟩
  rcases h.2 with h1 | ⟨g, cap, cur, e1, hb, hh, r⟩
  · exact Or.inl h1
  · exact Or.inr ⟨g, cap, cur, e1, hb, by rw [hs g (by rw [e1]; rfl)]; exact hh, r⟩
theorem own_below (h : w.ownsRow B e size v n xs) (hb : Below w.heap.size w w') : w'.ownsRow B e size v n xs :=
  own_same h fun g hg => by
    rcases own_block h with h1 | ⟨g', cur, h1, _, h2⟩
    · rw [h1] at hg; cases hg
    · rw [h1] at hg
      obtain rfl : g' = g := by simpa using hg
      exact hb.block _ (lt_of_heap h2)
theorem own_mono (h : w.ownsRow B e size v n xs) (hB : B' ≤ B) : w.ownsRow B' e size v n xs := by
  refine ⟨h.1, ?_⟩
  rcases h.2 with h1 | ⟨g, cap, cur, e1, hb, r⟩
  · exact Or.inl h1
  · exact Or.inr ⟨g, cap, cur, e1, by omega, r⟩
end

/-- v is a row (of type t) of rows (of type s, five cells a key) -/
def RB (B : Nat) (w : World) (t s : TypeId) (v : Value) (vs : List Value) (L : List (List KeyD)) : Prop :=
  w.ownsRow B t 1 v L.length vs ∧ vs.length = L.length ∧ ∀ (j : Nat) (r : List KeyD), L[j]? = some r → ∃ x, vs[j]? = some x ∧ w.ownsRow B s 5 x r.length (flat r)

section
variable {w w' : World} {B B' m size : Nat} {t s e' : TypeId} {v v' u : Value} {vs ys : List Value} {L : List (List KeyD)}
theorem RB.nil (B : Nat) (w : World) (t s : TypeId) : RB B w t s (.slice none 0 0) [] [] := ⟨World.ownsRow_nil _ _ _ _, rfl, fun j r h => by simp at h⟩
theorem RB.kept (h : RB B w t s v vs L) (k : w.ownsRow B' e' size u m ys) (ht : t ≠ e') (hs : s ≠ e') (hg : w.grownBy w' u.ownBlock) : RB B w' t s v vs L :=
  ⟨h.1.kept hg (own_ne h.1 k ht), h.2.1, fun j r hr => by
    obtain ⟨x, h1, h2⟩ := h.2.2 j r hr
    exact ⟨x, h1, h2.kept hg (own_ne h2 k hs)⟩⟩
theorem RB.alloc (h : RB B w t s v vs L) (o : Obj) : RB B (w.alloc o) t s v vs L :=
  ⟨h.1.alloc _, h.2.1, fun j r hr => by
    obtain ⟨x, h1, h2⟩ := h.2.2 j r hr
    exact ⟨x, h1, h2.alloc _⟩⟩
theorem RB.below (h : RB B w t s v vs L) (hb : Below w.heap.size w w') : RB B w' t s v vs L :=
  ⟨own_below h.1 hb, h.2.1, fun j r hr => by
    obtain ⟨x, h1, h2⟩ := h.2.2 j r hr
    exact ⟨x, h1, own_below h2 hb⟩⟩
theorem RB.grow {x : Value} {r : List KeyD} {o : Obj} (h : RB B w t s v vs L) (hx : w.ownsRow B s 5 x r.length (flat r)) (hown : w'.ownsRow B t 1 v' (L.length + 1) (vs ++ [x])) (hg : (w.alloc o).grownBy w' v.ownBlock) (hts : s ≠ t) :
    RB B w' t s v' (vs ++ [x]) (L ++ [r]) := by
  refine ⟨by rw [List.length_append]; exact hown, by simp [h.2.1], fun j r' hr => ?_⟩
  by_cases hj : j < L.length
  · rw [List.getElem?_append_left hj] at hr
    obtain ⟨y, h1, h2⟩ := h.2.2 j r' hr
    refine ⟨y, by rw [List.getElem?_append_left (by rw [h.2.1]; exact hj)]; exact h1, (h2.alloc o).kept hg (own_ne h2 h.1 hts)⟩
  · have hj2 : j = L.length := by
      have := (List.getElem?_eq_some_iff.1 hr).1
      simp at this
      omega
    subst hj2
    obtain rfl : r = r' := by simpa using hr
    exact ⟨x, by rw [← h.2.1]; simp, (hx.alloc o).kept hg (own_ne hx h.1 hts)⟩

/-- a row that the call made, as the closure and the comparison read it -/
theorem own_row {x : Value} {r : List KeyD} (h : w.ownsRow B 41 5 x r.length (flat r)) : ∃ A c, x = .slice A r.length c ∧ RowIs w A c r := by
  rcases h.2 with ⟨rfl, h0⟩ | ⟨g, cap, cur, rfl, hb, hh, hc, _, hs, ht⟩
  · exact ⟨none, 0, by rw [h0], Or.inl ⟨rfl, List.length_eq_zero_iff.1 h0⟩⟩
  · refine ⟨_, cap, rfl, Or.inr ⟨g, rfl, lt_of_heap hh, hc, fun j k hk t v hv => ?_⟩⟩
    simp only [World.cell?, hh]
    have h1 := flat_get r j k hk t v hv
    have h2 : j * 5 + t < r.length * 5 := by rw [← flat_len]; exact (List.getElem?_eq_some_iff.1 h1).1
    rw [← ht, List.getElem?_take, if_pos h2] at h1
    simpa using h1
theorem RB.rowsAt (h : RB B w 35 41 v vs L) (hn : 0 < L.length) : ∃ rb c, v = .slice (some ⟨rb, 0, none⟩) L.length c ∧ B ≤ rb ∧ RowsAt w rb L ∧ ∀ j x, vs[j]? = some x → w.cell? ⟨rb, j, none⟩ = some x := by
  obtain ⟨h1, h2, h3⟩ := h
  rcases h1.2 with ⟨_, h0⟩ | ⟨g, cap, cur, rfl, hg, hb, hnc, hm, hcs, htk⟩
  · omega
  · have hrow : ∀ j x, vs[j]? = some x → w.cell? ⟨g, j, none⟩ = some x := fun j x hx => by
      simp only [World.cell?, hb]
      have hj := (List.getElem?_eq_some_iff.1 hx).1
      rw [← htk, List.getElem?_take, if_pos (by omega)] at hx
      simpa using hx
    refine ⟨g, cap, rfl, hg, ⟨lt_of_heap hb, fun i row hi => ?_⟩, hrow⟩
    obtain ⟨x, hx, ho⟩ := h3 i row hi
    obtain ⟨A, c, rfl, hr⟩ := own_row ho
    exact ⟨A, c, hrow i _ hx, hr⟩
end
end Go.Proofs.YtkigjcdjiheneaaDoor
