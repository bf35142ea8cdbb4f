/- stencillaw13.XsortNumbers returns true at every int. No condition. -/
import Derived.Test.YtkigjcdjiheneaaDoorFmt
import Derived.Test.YtkigjcdjiheneaaDoorRefW
namespace Go.Proofs.YtkigjcdjiheneaaDoor
open Go.RowKit Go.Sten

def romI (m : Int) : List UInt8 := if 1 ≤ m ∧ m ≤ 3999 then rom m.toNat else []
def letsI (m : Int) : List UInt8 := lets m.toNat

theorem romI_any (m : Int) (W : World) : Calls Tryd.prog 11 #[.int .i64 m] W fun e w' => e = .returned (.string ⟨(romI m).toArray⟩) ∧ Below W.heap.size W w' := by
  unfold romI
  by_cases h : 1 ≤ m ∧ m ≤ 3999
  · rw [if_pos h]
    have := roman_any m.toNat W (by omega) (by omega)
    rwa [Int.toNat_of_nonneg (by omega)] at this
  · rw [if_neg h]
    exact (roman_none m W (by omega)).mono fun _ _ ⟨he, hw⟩ => ⟨he, hw ▸ Below.refl _ _⟩
theorem refRomI_any (m : Int) (W : World) : Calls Tryd.prog 12 #[.int .i64 m] W fun e w' => e = .returned (.string ⟨(romI m).toArray⟩) ∧ Below W.heap.size W w' := by
  unfold romI
  by_cases h : 1 ≤ m ∧ m ≤ 3999
  · rw [if_pos h]
    have := refRoman_any m.toNat W (by omega) (by omega)
    rwa [Int.toNat_of_nonneg (by omega)] at this
  · rw [if_neg h]
    exact (refRoman_none m W (by omega)).mono fun _ _ ⟨he, hw⟩ => ⟨he, hw ▸ Below.refl _ _⟩
theorem letsI_any (m : Int) (W : World) (hm : m ≤ 1099511627777) : Calls Tryd.prog 13 #[.int .i64 m] W fun e w' => e = .returned (.string ⟨(letsI m).toArray⟩) ∧ W = w' := by
  unfold letsI
  by_cases h : m < 1
  · rw [show m.toNat = 0 by omega, lets_zero]
    exact letters_none m W h
  · have := letters_any m.toNat W (by omega)
    rwa [Int.toNat_of_nonneg (by omega)] at this
theorem refLetsI_any (m : Int) (W : World) (hm : m ≤ 1099511627777) : Calls Tryd.prog 14 #[.int .i64 m] W fun e w' => e = .returned (.string ⟨(letsI m).toArray⟩) ∧ Below W.heap.size W w' := by
  unfold letsI
  by_cases h : m < 1
  · rw [show m.toNat = 0 by omega, lets_zero]
    exact refLetters_none m W h
  · have := refLetters_any m.toNat m.toNat W (Nat.le_refl _) (by omega)
    rwa [Int.toNat_of_nonneg (by omega)] at this

/-- what letters say -/
def letVal (l : List UInt8) : Nat := l.foldl (fun n c => 26 * n + (c.toNat - 96)) 0
theorem letVal_snoc (l : List UInt8) (c : UInt8) : letVal (l ++ [c]) = 26 * letVal l + (c.toNat - 96) := by
  unfold letVal; rw [List.foldl_append]; rfl
theorem letVal_lets (n : Nat) : letVal (lets n) = n := by
  by_cases h : n = 0
  · subst h; rw [lets_zero]; rfl
  · rw [lets_pos n (by omega), letVal_snoc, letVal_lets ((n - 1) / 26)]
    have : (UInt8.ofNat (97 + (n - 1) % 26)).toNat = 97 + (n - 1) % 26 := by simp; omega
    rw [this]; omega
termination_by n
decreasing_by omega
theorem lets_inj (a b : Nat) (h : lets a = lets b) : a = b := by rw [← letVal_lets a, h, letVal_lets]

theorem letsI_ne (m : Int) (h : 1 ≤ m) : (letsI m == letsI (m + 1)) = false := by
  rw [beq_eq_false_iff_ne]
  intro e
  have := lets_inj _ _ e
  omega

set_option maxHeartbeats 400000 in
theorem law_mid (n : Int) (w : World) (h1 : -1099511627776 ≤ n) (h2 : n ≤ 1099511627776) :
    Calls Tryd.prog 3 #[.int .i64 n] w fun e w' => e = .returned (.bool true) ∧ Below w.heap.size w w' := by
  have c10 := fun W => live_any W
  have c11 := fun W => romI_any n W
  have c12 := fun W => refRomI_any n W
  have c13 := fun W => letsI_any n W (by omega)
  have c14 := fun W => refLetsI_any n W (by omega)
  have c15 := fun W => letsI_any (n + 1) W (by omega)
  by_cases hpos : n < 1
  · go_enter Tryd.func3, Tryd.ntmps3
    go_wp2_with fail
    refine (c10 _).mono ?_
    rintro e w1 ⟨rfl, hb1⟩
    go_wp2_with fail
    refine (c11 _).mono ?_
    rintro e w2 ⟨rfl, hb2⟩
    go_wp2_with fail
    refine (c12 _).mono ?_
    rintro e w3 ⟨rfl, hb3⟩
    go_wp2_with fail
    refine (c13 _).mono ?_
    rintro e w4 ⟨rfl, rfl⟩
    go_wp2_with fail
    refine (c14 _).mono ?_
    rintro e w5 ⟨rfl, hb5⟩
    go_wp2_with fail
    go_ret
    exact ⟨rfl, below_both (below_both (below_both hb1 hb2) hb3) hb5⟩
  · have hp : 1 ≤ n := by omega
    have hne := letsI_ne n hp
    go_enter Tryd.func3, Tryd.ntmps3
    go_wp2_with fail
    refine (c10 _).mono ?_
    rintro e w1 ⟨rfl, hb1⟩
    go_wp2_with fail
    refine (c11 _).mono ?_
    rintro e w2 ⟨rfl, hb2⟩
    go_wp2_with fail
    refine (c12 _).mono ?_
    rintro e w3 ⟨rfl, hb3⟩
    go_wp2_with fail
    refine (c13 _).mono ?_
    rintro e w4 ⟨rfl, rfl⟩
    go_wp2_with fail
    refine (c14 _).mono ?_
    rintro e w5 ⟨rfl, hb5⟩
    go_wp2_with fail
    refine (c13 _).mono ?_
    rintro e w6 ⟨rfl, rfl⟩
    go_wp2_with fail
    refine (c15 _).mono ?_
    rintro e w7 ⟨rfl, rfl⟩
    go_wp2_with fail
    go_ret
    exact ⟨rfl, below_both (below_both (below_both hb1 hb2) hb3) hb5⟩

set_option maxHeartbeats 400000 in
theorem law_high (n : Int) (w : World) (h1 : 1099511627776 < n) :
    Calls Tryd.prog 3 #[.int .i64 n] w fun e w' => e = .returned (.bool true) ∧ Below w.heap.size w w' := by
  have c10 := fun W => live_any W
  have hm0 : 0 ≤ n % 1099511627776 := by omega
  have hm1 : n % 1099511627776 ≤ 1099511627775 := by omega
  go_enter Tryd.func3, Tryd.ntmps3
  go_wp2_with fail
  generalize n % 1099511627776 = m at hm0 hm1 ⊢
  have c11 := fun W => romI_any m W
  have c12 := fun W => refRomI_any m W
  have c13 := fun W => letsI_any m W (by omega)
  have c14 := fun W => refLetsI_any m W (by omega)
  have c15 := fun W => letsI_any (m + 1) W (by omega)
  by_cases hpos : m < 1
  · refine (c10 _).mono ?_
    rintro e w1 ⟨rfl, hb1⟩
    go_wp2_with fail
    refine (c11 _).mono ?_
    rintro e w2 ⟨rfl, hb2⟩
    go_wp2_with fail
    refine (c12 _).mono ?_
    rintro e w3 ⟨rfl, hb3⟩
    go_wp2_with fail
    refine (c13 _).mono ?_
    rintro e w4 ⟨rfl, rfl⟩
    go_wp2_with fail
    refine (c14 _).mono ?_
    rintro e w5 ⟨rfl, hb5⟩
    go_wp2_with fail
    go_ret
    exact ⟨rfl, below_both (below_both (below_both hb1 hb2) hb3) hb5⟩
  · have hp : 1 ≤ m := by omega
    have hne := letsI_ne m hp
    refine (c10 _).mono ?_
    rintro e w1 ⟨rfl, hb1⟩
    go_wp2_with fail
    refine (c11 _).mono ?_
    rintro e w2 ⟨rfl, hb2⟩
    go_wp2_with fail
    refine (c12 _).mono ?_
    rintro e w3 ⟨rfl, hb3⟩
    go_wp2_with fail
    refine (c13 _).mono ?_
    rintro e w4 ⟨rfl, rfl⟩
    go_wp2_with fail
    refine (c14 _).mono ?_
    rintro e w5 ⟨rfl, hb5⟩
    go_wp2_with fail
    refine (c13 _).mono ?_
    rintro e w6 ⟨rfl, rfl⟩
    go_wp2_with fail
    refine (c15 _).mono ?_
    rintro e w7 ⟨rfl, rfl⟩
    go_wp2_with fail
    go_ret
    exact ⟨rfl, below_both (below_both (below_both hb1 hb2) hb3) hb5⟩

set_option maxHeartbeats 400000 in
theorem law_low (n : Int) (w : World) (h1 : n < -1099511627776) :
    Calls Tryd.prog 3 #[.int .i64 n] w fun e w' => e = .returned (.bool true) ∧ Below w.heap.size w w' := by
  have c10 := fun W => live_any W
  have c11 := fun W => romI_any (-1) W
  have c12 := fun W => refRomI_any (-1) W
  have c13 := fun W => letsI_any (-1) W (by omega)
  have c14 := fun W => refLetsI_any (-1) W (by omega)
  have c15 := fun W => letsI_any ((-1) + 1) W (by omega)
  go_enter Tryd.func3, Tryd.ntmps3
  go_wp2_with fail
  refine (c10 _).mono ?_
  rintro e w1 ⟨rfl, hb1⟩
  go_wp2_with fail
  refine (c11 _).mono ?_
  rintro e w2 ⟨rfl, hb2⟩
  go_wp2_with fail
  refine (c12 _).mono ?_
  rintro e w3 ⟨rfl, hb3⟩
  go_wp2_with fail
  refine (c13 _).mono ?_
  rintro e w4 ⟨rfl, rfl⟩
  go_wp2_with fail
  refine (c14 _).mono ?_
  rintro e w5 ⟨rfl, hb5⟩
  go_wp2_with fail
  go_ret
  exact ⟨rfl, below_both (below_both (below_both hb1 hb2) hb3) hb5⟩

theorem law_any (n : Int) (w : World) : Calls Tryd.prog 3 #[.int .i64 n] w fun e w' => e = .returned (.bool true) ∧ Below w.heap.size w w' := by
  by_cases h1 : 1099511627776 < n
  · exact law_high n w h1
  · by_cases h2 : n < -1099511627776
    · exact law_low n w h2
    · exact law_mid n w (by omega) (by omega)
end Go.Proofs.YtkigjcdjiheneaaDoor
