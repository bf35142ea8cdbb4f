/- The plain law of xsort.Order: its places are a turn of 0 .. n-1, in order, alike ones in theirs. -/
import Derived.Test.YtkigjcdjiheneaaDoorOr3
namespace Go.Proofs.YtkigjcdjiheneaaDoor
open Go.RowKit Go.Sten Go.Lib Go.Shelf Go.Sort Go.Stab

theorem ordF_spec (rs : List (List KeyD)) (n : Nat) (h : 0 < n) :
    (ordF rs n h).size = n ∧ (ordF rs n h).toList.Perm (List.finRange n) ∧ ∀ (p q : Nat) (hp : p < (ordF rs n h).size) (hq : q < (ordF rs n h).size), p < q → cfR rs n (ordF rs n h)[p] (ordF rs n h)[q] ≤ 0 ∧ (cfR rs n (ordF rs n h)[p] (ordF rs n h)[q] = 0 → ((ordF rs n h)[p]).val ≤ ((ordF rs n h)[q]).val) := by
  let _ : Inhabited (Fin n) := ⟨⟨0, h⟩⟩
  have hsz : ((List.finRange n).toArray).size = n := by simp
  have hpre := cfR_pre rs n
  obtain ⟨h1, h2⟩ := stable_spec (tag := fun x : Fin n => x.val) (hpre.swo) n (List.finRange n).toArray hsz (by
    intro p q hpq hq
    rw [getElem!_pos _ p (by omega), getElem!_pos _ q (by omega)]
    simpa using hpq)
  have e : stable (ltOf (cfR rs n)) n (List.finRange n).toArray = ordF rs n h := rfl
  rw [e] at h1 h2
  have hs : (ordF rs n h).size = n := h1.1.trans hsz
  refine ⟨hs, ?_, ?_⟩
  · have := h1.2.2
    rw [Array.extract_eq_self_of_le (by omega), Array.extract_eq_self_of_le (by omega)] at this
    exact this
  · intro p q hp hq hpq
    have h3 := h2 p q (by omega) hpq (by omega)
    rw [getElem!_pos _ p hp, getElem!_pos _ q hq] at h3
    have h4 := hpre.flip (ordF rs n h)[p] (ordF rs n h)[q]
    simp only [ltT, ltOf, Bool.or_eq_false_iff, decide_eq_false_iff_not, Bool.and_eq_false_iff, Bool.not_eq_false', decide_eq_true_eq] at h3
    omega

theorem ordR_pos (rs : List (List KeyD)) (n : Nat) (h : 0 < n) : ordR rs n = (ordF rs n h).toList.map (fun x => x.val) := by unfold ordR; rw [dif_pos h]
theorem ordR_getD (rs : List (List KeyD)) (n : Nat) (h : 0 < n) (j : Nat) (hj : j < (ordF rs n h).size) : (ordR rs n).getD j 0 = ((ordF rs n h)[j]).val := by
  rw [ordR_pos rs n h]
  simp [List.getD, hj]
theorem ordR_lt (rs : List (List KeyD)) (n j : Nat) (hj : j < n) : (ordR rs n).getD j 0 < n := by
  have h : 0 < n := by omega
  have hs := (ordF_spec rs n h).1
  rw [ordR_getD rs n h j (by omega)]
  exact ((ordF rs n h)[j]).isLt
theorem ordR_perm (rs : List (List KeyD)) (n : Nat) : (ordR rs n).Perm (List.range n) := by
  by_cases h : 0 < n
  · rw [ordR_pos rs n h]
    have h1 := ((ordF_spec rs n h).2.1).map (fun x : Fin n => x.val)
    have e : (List.finRange n).map (fun x : Fin n => x.val) = List.range n := by
      apply List.ext_getElem
      · simp
      · intro i h1 h2; simp
    rw [e] at h1
    exact h1
  · have e : n = 0 := by omega
    subst e
    simp [ordR]
theorem ordR_len (rs : List (List KeyD)) (n : Nat) : (ordR rs n).length = n := by
  have := (ordR_perm rs n).length_eq
  simpa using this
theorem ordR_sorted (rs : List (List KeyD)) (n p q : Nat) (hpq : p < q) (hq : q < n) :
    rowCmp (rs.getD ((ordR rs n).getD p 0) []) (rs.getD ((ordR rs n).getD q 0) []) 0 (rs.getD 0 []) ≤ 0 ∧
    (rowCmp (rs.getD ((ordR rs n).getD p 0) []) (rs.getD ((ordR rs n).getD q 0) []) 0 (rs.getD 0 []) = 0 → (ordR rs n).getD p 0 ≤ (ordR rs n).getD q 0) := by
  have h : 0 < n := by omega
  have hs := (ordF_spec rs n h).1
  have h1 := (ordF_spec rs n h).2.2 p q (by omega) (by omega) hpq
  rw [ordR_getD rs n h p (by omega), ordR_getD rs n h q (by omega)]
  exact h1
end Go.Proofs.YtkigjcdjiheneaaDoor
