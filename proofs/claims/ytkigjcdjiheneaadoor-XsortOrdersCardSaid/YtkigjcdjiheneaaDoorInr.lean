/- The plain law of the reference's Order: inserting from the back by a strict comparison leaves the one list that is in order, alike ones in theirs. -/
import Derived.Test.YtkigjcdjiheneaaDoorTrn
namespace Go.Proofs.YtkigjcdjiheneaaDoor
open Go.RowKit Go.Sten

/-- how far down a place slides -/
def slide (cmp : Nat → Nat → Int) (out : List Nat) (i : Nat) : Nat → Nat
  | 0 => 0
  | k + 1 => if cmp i (out.getD k 0) < 0 then slide cmp out i k else k + 1
def insR (cmp : Nat → Nat → Int) (out : List Nat) (i : Nat) : List Nat := out.take (slide cmp out i out.length) ++ i :: out.drop (slide cmp out i out.length)
def refO (cmp : Nat → Nat → Int) : Nat → List Nat
  | 0 => []
  | i + 1 => insR cmp (refO cmp i) i

theorem slide_le (cmp : Nat → Nat → Int) (out : List Nat) (i : Nat) : ∀ k, slide cmp out i k ≤ k := fun k => by
  induction k with
  | zero => exact Nat.le_refl _
  | succ k ih => rw [slide]; split <;> omega
theorem slide_hi (cmp : Nat → Nat → Int) (out : List Nat) (i : Nat) : ∀ k j, slide cmp out i k ≤ j → j < k → cmp i (out.getD j 0) < 0 := fun k => by
  induction k with
  | zero => intro j _ h; omega
  | succ k ih =>
    intro j h1 h2
    rw [slide] at h1
    split at h1
    · by_cases e : j = k
      · rw [e]; assumption
      · exact ih j h1 (by omega)
    · omega
theorem slide_lo (cmp : Nat → Nat → Int) (out : List Nat) (i : Nat) : ∀ k, 0 < slide cmp out i k → ¬ cmp i (out.getD (slide cmp out i k - 1) 0) < 0 := fun k => by
  induction k with
  | zero => intro h; simp [slide] at h
  | succ k ih =>
    intro h
    rw [slide] at h ⊢
    split
    · rename_i hc; rw [if_pos hc] at h; exact ih h
    · rename_i hc; simpa using hc

def ordRel (cmp : Nat → Nat → Int) (a b : Nat) : Prop := cmp a b ≤ 0 ∧ (cmp a b = 0 → a ≤ b)

theorem refO_spec (cmp : Nat → Nat → Int) (hp : Pre cmp) : ∀ n, (refO cmp n).Perm (List.range n) ∧ (refO cmp n).Pairwise (ordRel cmp) := fun n => by
  induction n with
  | zero => exact ⟨List.Perm.refl _, List.Pairwise.nil⟩
  | succ i ih =>
    obtain ⟨h1, h2⟩ := ih
    have hlt : ∀ x ∈ refO cmp i, x < i := fun x hx => by simpa using h1.mem_iff.1 hx
    rw [refO]
    generalize refO cmp i = out at h1 h2 hlt ⊢
    have hle := slide_le cmp out i out.length
    have hhi := slide_hi cmp out i out.length
    have hlo := slide_lo cmp out i out.length
    unfold insR
    generalize slide cmp out i out.length = k at hle hhi hlo ⊢
    refine ⟨?_, ?_⟩
    · rw [List.range_succ]
      refine (List.perm_middle).trans ?_
      rw [List.take_append_drop]
      exact (List.Perm.cons i h1).trans (List.perm_append_comm (l₁ := [i]) (l₂ := List.range i))
    · rw [List.pairwise_append]
      have hd : ∀ x ∈ out.drop k, ordRel cmp i x := fun x hx => by
        obtain ⟨j, hj⟩ := List.getElem?_of_mem hx
        rw [List.getElem?_drop] at hj
        have hjl := (List.getElem?_eq_some_iff.1 hj).1
        have := hhi (k + j) (by omega) hjl
        have e : out.getD (k + j) 0 = x := by simp [List.getD, hj]
        rw [e] at this
        exact ⟨by omega, fun h => by omega⟩
      have ht : ∀ x ∈ out.take k, ordRel cmp x i := fun x hx => by
        have hxi := hlt x (List.mem_of_mem_take hx)
        refine ⟨?_, fun _ => by omega⟩
        obtain ⟨j, hj⟩ := List.getElem?_of_mem hx
        have hjk : j < k := by have := (List.getElem?_eq_some_iff.1 hj).1; simp at this; omega
        rw [List.getElem?_take, if_pos hjk] at hj
        have hl := hlo (by omega)
        have hlen : k - 1 < out.length := by omega
        have e : out.getD (k - 1) 0 = out[k - 1] := by simp [List.getD, hlen]
        rw [e] at hl
        have hf := hp.flip i out[k - 1]
        have h4 : cmp out[k - 1] i ≤ 0 := by omega
        by_cases ej : j = k - 1
        · subst ej
          rw [List.getElem?_eq_getElem hlen] at hj
          obtain rfl : out[k - 1] = x := by simpa using hj
          exact h4
        · have hjl := (List.getElem?_eq_some_iff.1 hj).1
          have e2 : out[j] = x := (List.getElem?_eq_some_iff.1 hj).2
          have h5 := (List.pairwise_iff_getElem.1 h2 j (k - 1) hjl hlen (by omega)).1
          rw [e2] at h5
          exact hp.trans x out[k - 1] i h5 h4
      refine ⟨h2.sublist (List.take_sublist _ _), List.pairwise_cons.2 ⟨hd, h2.sublist (List.drop_sublist _ _)⟩, fun a ha b hb => ?_⟩
      rcases List.mem_cons.1 hb with rfl | hb
      · exact ht a ha
      · rw [← List.take_append_drop k out, List.pairwise_append] at h2
        exact h2.2.2 a ha b hb

/-- the places of rows compared -/
def cmpL (L : List (List KeyD)) (a b : Nat) : Int := rowCmp (L.getD a []) (L.getD b []) 0 (L.getD 0 [])
theorem cmpL_pre (L : List (List KeyD)) : Pre (cmpL L) := (rowCmp_pre (L.getD 0 []) 0).on (fun a : Nat => L.getD a [])
/-- THE REFERENCE'S ORDER IS THE PROGRAM'S -/
theorem refO_ordR (L : List (List KeyD)) (n : Nat) : refO (cmpL L) n = ordR L n := by
  obtain ⟨h1, h2⟩ := refO_spec (cmpL L) (cmpL_pre L) n
  refine sorted_eq (ordRel (cmpL L)) (fun a b h k => ?_) _ _ (h1.trans (ordR_perm L n).symm) h2 ?_
  · have hf := (cmpL_pre L).flip a b
    have h3 := h.1
    have h4 := k.1
    have h5 := h.2 (by omega)
    have h6 := k.2 (by omega)
    omega
  · rw [List.pairwise_iff_getElem]
    intro i j hi hj hij
    have hl := ordR_len L n
    have h := ordR_sorted L n i j hij (by omega)
    have e : ∀ k (hk : k < (ordR L n).length), (ordR L n).getD k 0 = (ordR L n)[k] := fun k hk => by simp [List.getD, hk]
    rw [e i hi, e j hj] at h
    exact h
end Go.Proofs.YtkigjcdjiheneaaDoor
