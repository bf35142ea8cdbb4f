/- Division of two words by one, bit by bit: the plain law. -/
import Derived.Test.YtclpgacaecfjlaaDoorAid
import Derived.Laws.BitsAllLaws
import Derived.WalkKit
namespace Go.Proofs.YtclpgacaecfjlaaDoor
open Go.RowKit Go.Sten
/-- two words as one -/
def two (hi lo : Nat) : Nat := hi * 2 ^ 64 + lo
def J1 (hi lo d q r j : Nat) : Prop := j < 128 ∧ r = two hi lo / 2 ^ (j + 1) % d ∧ q = 2 ^ (j + 1) * (two hi lo / 2 ^ (j + 1) / d) ∧ (63 ≤ j → two hi lo / 2 ^ (j + 1) / d = 0) ∧ (j ≤ 63 → two hi lo / 2 ^ 64 / d = 0)
/-- the quotient, of all ones where it does not go into a word -/
def quo (N d : Nat) : Nat := if N / d < 2 ^ 64 then N / d else 2 ^ 64 - 1
def rem (N d : Nat) : Nat := if N / d < 2 ^ 64 then N % d else 0

theorem half (N j : Nat) : N / 2 ^ j = 2 * (N / 2 ^ (j + 1)) + N / 2 ^ j % 2 := by
  rw [Nat.pow_succ, ← Nat.div_div_eq_div_mul]
  omega
theorem div_step (N d j : Nat) (hd : 0 < d) :
    N / 2 ^ j / d = (if d ≤ 2 * (N / 2 ^ (j + 1) % d) + N / 2 ^ j % 2 then 2 * (N / 2 ^ (j + 1) / d) + 1 else 2 * (N / 2 ^ (j + 1) / d)) ∧
    N / 2 ^ j % d = (if d ≤ 2 * (N / 2 ^ (j + 1) % d) + N / 2 ^ j % 2 then 2 * (N / 2 ^ (j + 1) % d) + N / 2 ^ j % 2 - d else 2 * (N / 2 ^ (j + 1) % d) + N / 2 ^ j % 2) := by
  have h := half N j
  have hb : N / 2 ^ j % 2 < 2 := Nat.mod_lt _ (by omega)
  generalize hM : N / 2 ^ j = M at h hb ⊢
  generalize hK : N / 2 ^ (j + 1) = K at h ⊢
  generalize hB : M % 2 = b at h hb ⊢
  clear hM hK hB
  subst h
  have e := Nat.div_add_mod K d
  have hr : K % d < d := Nat.mod_lt _ hd
  generalize K / d = Q at e ⊢
  generalize K % d = r at e hr ⊢
  subst e
  have e2 : 2 * (d * Q + r) + b = d * (2 * Q) + (2 * r + b) := by
    rw [Nat.mul_add, ← Nat.mul_assoc, Nat.mul_comm 2 d, Nat.mul_assoc]; omega
  rw [e2]
  split
  · rename_i hge
    have e3 : d * (2 * Q) + (2 * r + b) = (2 * r + b - d) + d * (2 * Q + 1) := by rw [Nat.mul_add, Nat.mul_one]; omega
    rw [e3, Nat.add_mul_div_left _ _ hd, Nat.add_mul_mod_self_left, Nat.div_eq_of_lt (by omega), Nat.mod_eq_of_lt (by omega)]
    omega
  · rename_i hlt
    rw [Nat.add_comm, Nat.add_mul_div_left _ _ hd, Nat.add_mul_mod_self_left, Nat.div_eq_of_lt (by omega), Nat.mod_eq_of_lt (by omega)]
    omega

/-- the bit at a place: of the higher word, of the lower one -/
theorem bit_hi (hi lo j : Nat) (hl : lo < 2 ^ 64) (h : 64 ≤ j) : two hi lo / 2 ^ j = hi / 2 ^ (j - 64) := by
  obtain ⟨k, rfl⟩ : ∃ k, j = 64 + k := ⟨j - 64, by omega⟩
  rw [Nat.pow_add, ← Nat.div_div_eq_div_mul, show 64 + k - 64 = k by omega]
  congr 1
  unfold two
  omega
theorem bit_lo (hi lo j : Nat) (h : j < 64) : two hi lo / 2 ^ j % 2 = lo / 2 ^ j % 2 := by
  obtain ⟨k, hk⟩ : ∃ k, 64 = j + (k + 1) := ⟨63 - j, by omega⟩
  unfold two
  rw [hk, Nat.pow_add, ← Nat.mul_assoc, Nat.mul_comm hi, Nat.mul_assoc, Nat.add_comm, Nat.add_mul_div_left _ _ (Nat.two_pow_pos j), Nat.pow_succ, ← Nat.mul_assoc, Nat.add_mul_mod_self_right]
theorem and_one (x : Nat) (h : x < 2 ^ 64) : bits .and .u64 (x : Int) 1 = ((x % 2 : Nat) : Int) := by
  rw [show (1 : Int) = ((1 : Nat) : Int) from rfl, u64_and_nat x 1 (by omega) (by omega), nat_mask1]
theorem and_hi (hi lo j : Nat) (hh : hi < 2 ^ 64) (hl : lo < 2 ^ 64) (h : 64 ≤ j) : bits .and .u64 ((hi : Int) / 2 ^ (j - 64)) 1 = ((two hi lo / 2 ^ j % 2 : Nat) : Int) := by
  rw [bit_hi hi lo j hl h, show ((hi : Int) / 2 ^ (j - 64)) = ((hi / 2 ^ (j - 64) : Nat) : Int) by simp]
  exact and_one _ (Nat.lt_of_le_of_lt (Nat.div_le_self _ _) hh)
theorem and_lo (hi lo j : Nat) (hl : lo < 2 ^ 64) (h : j < 64) : bits .and .u64 ((lo : Int) / 2 ^ j) 1 = ((two hi lo / 2 ^ j % 2 : Nat) : Int) := by
  rw [bit_lo hi lo j h, show ((lo : Int) / 2 ^ j) = ((lo / 2 ^ j : Nat) : Int) by simp]
  exact and_one _ (Nat.lt_of_le_of_lt (Nat.div_le_self _ _) hl)
theorem or_small (r b : Nat) (h : r < 9223372036854775808) (hb : b < 2) : bits .or .u64 ((r : Int) * 2) b = ((2 * r + b : Nat) : Int) := by
  rw [show ((r : Int) * 2) = ((2 * r : Nat) : Int) by simp; omega, u64_or_nat _ _ (by omega) (by omega), nat_join 1 (2 * r) b (by omega) (by omega)]
theorem or_great (r b : Nat) (h : 9223372036854775808 ≤ r) (h2 : r < 2 ^ 64) (hb : b < 2) : bits .or .u64 (IntKind.u64.wrap ((r : Int) * 2)) b = ((2 * r + b - 2 ^ 64 : Nat) : Int) := by
  have e : IntKind.u64.wrap ((r : Int) * 2) = ((2 * r - 2 ^ 64 : Nat) : Int) := by
    rw [IntKind.wrap_u64]; omega
  rw [e, u64_or_nat _ _ (by omega) (by omega), nat_join 1 (2 * r - 2 ^ 64) b (by omega) (by omega)]
  omega
theorem or_pow (q j : Nat) (hj : j < 64) (hq : q < 2 ^ 64) (h : q % 2 ^ (j + 1) = 0) : bits .or .u64 (q : Int) (IntKind.u64.wrap (2 ^ j)) = ((q + 2 ^ j : Nat) : Int) := by
  have hp : 2 ^ j < 2 ^ 64 := Nat.pow_lt_pow_right (by omega) hj
  have e : IntKind.u64.wrap (2 ^ j) = ((2 ^ j : Nat) : Int) := by
    rw [IntKind.wrap_u64, show ((2 : Int) ^ j) = ((2 ^ j : Nat) : Int) by simp]
    generalize 2 ^ j = p at hp
    omega
  rw [e, u64_or_nat _ _ (by omega) (by omega), nat_join (j + 1) q (2 ^ j) h (Nat.pow_lt_pow_right (by omega) (by omega))]
theorem sub_great (x d : Nat) (h : 2 ^ 64 ≤ x) (h2 : x < 2 * d) (hd : d < 2 ^ 64) : IntKind.u64.wrap (((x - 2 ^ 64 : Nat) : Int) - d) = ((x - d : Nat) : Int) := by
  rw [IntKind.wrap_u64]; omega
theorem carry_eq (r : Nat) (h : 9223372036854775808 ≤ r) (h2 : r < 2 ^ 64) : (((r : Int) / 9223372036854775808) == 1) = true := by
  simp; omega
theorem carry_ne (r : Nat) (h : ¬ 9223372036854775808 ≤ r) : (((r : Int) / 9223372036854775808) == 1) = false := by
  simp; omega
theorem div_lt_pow (N d j : Nat) (_hN : N < 2 ^ 128) (hq : 2 ^ 64 ≤ N / 2 ^ j / d * 2 ^ j) (_hd : 0 < d) : 2 ^ 64 ≤ N / d := by
  refine Nat.le_trans hq ?_
  rw [Nat.div_div_eq_div_mul, Nat.mul_comm, Nat.mul_comm (2 ^ j) d, ← Nat.div_div_eq_div_mul]
  exact Nat.mul_div_le _ _

theorem J1.yes {hi lo d q r j : Nat} (hd : 0 < d) (h : J1 hi lo d q r (j + 1)) (hs : d ≤ 2 * r + two hi lo / 2 ^ (j + 1) % 2) (hj : j + 1 < 64) :
    J1 hi lo d (q + 2 ^ (j + 1)) (2 * r + two hi lo / 2 ^ (j + 1) % 2 - d) j := by
  obtain ⟨h1, rfl, rfl, h4, h5⟩ := h
  obtain ⟨e1, e2⟩ := div_step (two hi lo) d (j + 1) hd
  rw [if_pos hs] at e1 e2
  refine ⟨by omega, e2.symm, ?_, fun h => by omega, fun _ => h5 (by omega)⟩
  rw [e1, Nat.mul_add, Nat.mul_one, Nat.pow_succ 2 (j + 1), Nat.mul_assoc]
theorem J1.no {hi lo d q r j : Nat} (hd : 0 < d) (h : J1 hi lo d q r (j + 1)) (hs : ¬ d ≤ 2 * r + two hi lo / 2 ^ (j + 1) % 2) :
    J1 hi lo d q (2 * r + two hi lo / 2 ^ (j + 1) % 2) j := by
  obtain ⟨h1, rfl, rfl, h4, h5⟩ := h
  obtain ⟨e1, e2⟩ := div_step (two hi lo) d (j + 1) hd
  rw [if_neg hs] at e1 e2
  refine ⟨by omega, e2.symm, ?_, fun h => ?_, fun h => ?_⟩
  · rw [e1, Nat.pow_succ 2 (j + 1), Nat.mul_assoc]
  · rw [e1, h4 (by omega)]
  · by_cases e : j = 63
    · subst e
      rw [e1, h4 (by omega)]
    · exact h5 (by omega)
theorem end_yes {hi lo d q r : Nat} (hd : 0 < d) (hq : q < 2 ^ 64) (h : J1 hi lo d q r 0) (hs : d ≤ 2 * r + two hi lo / 2 ^ 0 % 2) : quo (two hi lo) d = q + 2 ^ 0 ∧ rem (two hi lo) d = 2 * r + two hi lo / 2 ^ 0 % 2 - d := by
  obtain ⟨h1, rfl, rfl, h4, h5⟩ := h
  obtain ⟨e1, e2⟩ := div_step (two hi lo) d 0 hd
  rw [if_pos hs] at e1 e2
  rw [Nat.pow_zero, Nat.div_one] at e1
  have e3 : two hi lo / 2 ^ 0 % d = two hi lo % d := by rw [Nat.pow_zero, Nat.div_one]
  rw [e3] at e2
  have hlt : two hi lo / d < 2 ^ 64 := by omega
  unfold quo rem
  rw [if_pos hlt, if_pos hlt]
  omega
theorem end_no {hi lo d q r : Nat} (hd : 0 < d) (hq : q < 2 ^ 64) (h : J1 hi lo d q r 0) (hs : ¬ d ≤ 2 * r + two hi lo / 2 ^ 0 % 2) : quo (two hi lo) d = q ∧ rem (two hi lo) d = 2 * r + two hi lo / 2 ^ 0 % 2 := by
  obtain ⟨h1, rfl, rfl, h4, h5⟩ := h
  obtain ⟨e1, e2⟩ := div_step (two hi lo) d 0 hd
  rw [if_neg hs] at e1 e2
  rw [Nat.pow_zero, Nat.div_one] at e1
  have e3 : two hi lo / 2 ^ 0 % d = two hi lo % d := by rw [Nat.pow_zero, Nat.div_one]
  rw [e3] at e2
  have hlt : two hi lo / d < 2 ^ 64 := by omega
  unfold quo rem
  rw [if_pos hlt, if_pos hlt]
  omega
theorem over {hi lo d q r j : Nat} (hd : 0 < d) (h : J1 hi lo d q r j) (hs : d ≤ 2 * r + two hi lo / 2 ^ j % 2) (hj : 64 ≤ j) : quo (two hi lo) d = 2 ^ 64 - 1 ∧ rem (two hi lo) d = 0 := by
  obtain ⟨h1, rfl, rfl, h4, h5⟩ := h
  obtain ⟨e1, e2⟩ := div_step (two hi lo) d j hd
  rw [if_pos hs, h4 (by omega)] at e1
  have h5 : 2 ^ j ≤ two hi lo / d := by
    have h6 : two hi lo / 2 ^ j / d * 2 ^ j ≤ two hi lo / d := by
      rw [Nat.div_div_eq_div_mul, Nat.mul_comm (2 ^ j) d, ← Nat.div_div_eq_div_mul]
      exact Nat.div_mul_le_self _ _
    rw [e1] at h6
    omega
  have h7 : 2 ^ 64 ≤ 2 ^ j := Nat.pow_le_pow_right (by omega) hj
  unfold quo rem
  rw [if_neg (by omega), if_neg (by omega)]
  exact ⟨rfl, rfl⟩
theorem J1.q_lt {hi lo d q r j : Nat} (h : J1 hi lo d q r j) : q < 2 ^ 64 ∧ q % 2 ^ (j + 1) = 0 := by
  obtain ⟨h1, rfl, rfl, h4, h5⟩ := h
  refine ⟨?_, Nat.mul_mod_right _ _⟩
  by_cases hj : 63 ≤ j
  · rw [h4 hj]; omega
  · have h6 := h5 (by omega)
    rw [Nat.div_div_eq_div_mul, Nat.mul_comm, ← Nat.div_div_eq_div_mul] at h6
    have h7 : 2 ^ (j + 1) * (two hi lo / 2 ^ (j + 1) / d) ≤ two hi lo / d := by
      rw [Nat.div_div_eq_div_mul, Nat.mul_comm (2 ^ (j + 1)) d, ← Nat.div_div_eq_div_mul]
      exact Nat.mul_div_le _ _
    omega
theorem J1.start (hi lo d : Nat) (h2 : hi < 2 ^ 64) (h3 : lo < 2 ^ 64) : J1 hi lo d 0 0 127 := by
  have e : two hi lo / 2 ^ (127 + 1) = 0 := Nat.div_eq_of_lt (by unfold two; omega)
  unfold J1
  rw [e]
  simp
end Go.Proofs.YtclpgacaecfjlaaDoor
