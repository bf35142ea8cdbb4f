/- xsort.Letters and stencilref13.Letters: both hand back the number in letters ('lets'). No condition but the int's own range. -/
import Derived.Test.YtkigjcdjiheneaaDoorProg
import Derived.WalkKit
import Derived.WalkSpells
import Derived.WalkLawsBesides
import Derived.Deep.RegionWith
import Derived.Handy
namespace Go.Proofs.YtkigjcdjiheneaaDoor
open Go.RowKit

/-- a number in letters, as bytes -/
def lets (n : Nat) : List UInt8 := if _h : n = 0 then [] else lets ((n - 1) / 26) ++ [UInt8.ofNat (97 + (n - 1) % 26)]
termination_by n
decreasing_by omega

theorem lets_pos (n : Nat) (h : 0 < n) : lets n = lets ((n - 1) / 26) ++ [UInt8.ofNat (97 + (n - 1) % 26)] := by
  rw [lets, dif_neg (by omega)]
theorem lets_zero : lets 0 = [] := by rw [lets, dif_pos rfl]
theorem lets_len (n : Nat) : (lets n).length ≤ n := by
  by_cases h : n = 0
  · subst h; rw [lets_zero]; exact Nat.zero_le _
  · rw [lets_pos n (by omega), List.length_append]
    have := lets_len ((n - 1) / 26)
    simp only [List.length_cons, List.length_nil]
    omega
termination_by n
decreasing_by omega

theorem encode_one (c : Nat) (h : c < 128) : Utf8.encode (c : Int) = ⟨#[UInt8.ofNat c]⟩ := by
  have hv : Utf8.valid (c : Int) = true := by unfold Utf8.valid; simp; omega
  unfold Utf8.encode
  simp [hv, h]
theorem letter_one (i : Nat) (h : 0 < i) : Utf8.encode (97 + ((i : Int) - 1) % 26) = ⟨#[UInt8.ofNat (97 + (i - 1) % 26)]⟩ := by
  rw [show (97 + ((i : Int) - 1) % 26) = ((97 + (i - 1) % 26 : Nat) : Int) by omega]
  exact encode_one _ (by omega)

theorem conv_one (W : World) (b n cap : Nat) (hn : n < 256) (hc : W.cell? ⟨b, 0, none⟩ = some (.int .u8 (n : Int))) :
    (convert 52 9 (.slice (some ⟨b, 0, none⟩) 1 cap)).run Tryd.prog W = .ok (.string ⟨#[UInt8.ofNat n]⟩) W := by
  have h := run_convert_bytes_back (P := Tryd.prog) W 52 9 5 ⟨b, 0, none⟩ cap [UInt8.ofNat n] Tryd.underlying52 Tryd.underlying5 Tryd.underlying9 (fun j hj => by
    simp only [List.length_cons, List.length_nil] at hj
    obtain rfl : j = 0 := by omega
    have e : ((UInt8.ofNat n).toNat : Int) = (n : Int) := by simp; omega
    simp only [List.getElem_cons_zero]
    rw [e]
    exact hc)
  exact h

set_option maxHeartbeats 400000 in
theorem letters_any (n : Nat) (w : World) (hn : (n : Int) ≤ 1099511627777) :
    Calls Tryd.prog 13 #[.int .i64 n] w fun e w' => e = .returned (.string ⟨(lets n).toArray⟩) ∧ w = w' := by
  go_enter Tryd.func13, Tryd.ntmps13
  go_wp2
  go_loop [0, 3] (fun k s => ∃ (i : Nat) (l : List UInt8), i + l.length ≤ n ∧ k = .int .i64 i ∧ s = .string ⟨l.toArray⟩ ∧ Hid (lets n = lets i ++ l)) (fun k _ => (intOf k).toNat)
  case atStart => exact ⟨n, [], by simp, rfl, rfl, by simp [Hid]⟩
  case round =>
    obtain ⟨i, l, hi, rfl, rfl, HL⟩ := hrel
    by_cases hpos : 0 < i
    · have hsz : (Utf8.encode (97 + ((i : Int) - 1) % 26)).size ≤ 1 := by rw [letter_one i hpos]; exact Nat.le_refl _
      go_wp2
      go_round
      case rel =>
        refine ⟨(i - 1) / 26, UInt8.ofNat (97 + (i - 1) % 26) :: l, by simp; omega, ?_, ?_, ?_⟩
        · congr 1; omega
        · rw [letter_one i hpos]; rfl
        · show _ = _
          rw [HL.out, lets_pos i hpos]; simp
      case measure => simp [intOf]; omega
    · go_wp2
      go_ret
      obtain rfl : i = 0 := by omega
      have := HL.out
      rw [lets_zero, List.nil_append] at this
      rw [this]
      exact ⟨rfl, rfl⟩

set_option maxHeartbeats 400000 in
theorem letters_none (n : Int) (w : World) (hn : n < 1) :
    Calls Tryd.prog 13 #[.int .i64 n] w fun e w' => e = .returned (.string ⟨#[]⟩) ∧ w = w' := by
  go_enter Tryd.func13, Tryd.ntmps13
  go_wp2
  refine wp_loop_rounds 1 ?_
  rw [rounds_succ]
  go_wp2
  go_ret
  exact ⟨rfl, rfl⟩

set_option maxHeartbeats 400000 in
theorem refLetters_none (n : Int) (w : World) (hn : n < 1) :
    Calls Tryd.prog 14 #[.int .i64 n] w fun e w' => e = .returned (.string ⟨#[]⟩) ∧ Below w.heap.size w w' := by
  go_enter Tryd.func14, Tryd.ntmps14
  go_wp2_with fail
  go_ret
  exact ⟨rfl, Below.refl _ _⟩

set_option maxHeartbeats 400000 in
set_option maxRecDepth 100000 in
theorem refLetters_any (k : Nat) : ∀ (n : Nat) (w : World), n ≤ k → (n : Int) ≤ 1099511627777 →
    Calls Tryd.prog 14 #[.int .i64 n] w fun e w' => e = .returned (.string ⟨(lets n).toArray⟩) ∧ Below w.heap.size w w' := by
  induction k with
  | zero =>
    intro n w hk _
    obtain rfl : n = 0 := by omega
    rw [lets_zero]
    exact refLetters_none 0 w (by omega)
  | succ k ih =>
    intro n w hk hn
    by_cases hpos : 0 < n
    · go_enter Tryd.func14, Tryd.ntmps14
      go_wp2_with fail
      obtain ⟨m, hm⟩ : ∃ m, m = (n - 1) / 26 := ⟨_, rfl⟩
      obtain ⟨r, hr⟩ : ∃ r, r = (n - 1) % 26 := ⟨_, rfl⟩
      have hc : ∀ W, Calls Tryd.prog 14 #[.int .i64 (m : Int)] W fun e w' => e = .returned (.string ⟨(lets m).toArray⟩) ∧ Below W.heap.size W w' := fun W =>
        ih _ W (by omega) (by omega)
      have q1 : IntKind.i64.wrap (((n : Int) - 1).tdiv 26) = (m : Int) := by
        rw [Int.tdiv_eq_ediv_of_nonneg (by omega), IntKind.wrap_i64]; omega
      have q2 : ((n : Int) - 1).tmod 26 = (r : Int) := by
        rw [Int.tmod_eq_emod_of_nonneg (by omega)]; omega
      have hr26 : r < 26 := by omega
      have q3 : IntKind.i64.wrap (97 + (r : Int)) = 97 + (r : Int) := by rw [IntKind.wrap_i64]; omega
      obtain ⟨c, hc97⟩ : ∃ c, c = 97 + r := ⟨_, rfl⟩
      have q4 : IntKind.u8.wrap (97 + (r : Int)) = (c : Int) := by simp [IntKind.wrap, IntKind.bits, IntKind.signed]; omega
      have HL : Hid (lets n = lets m ++ [UInt8.ofNat c]) := by rw [hc97, hm, hr]; exact lets_pos n hpos
      have hc256 : c < 256 := by omega
      have hcv := fun (W : World) (b : Nat) => conv_one W b c 1 hc256
      have hlen : (lets m).length ≤ 1099511627777 := by have := lets_len m; omega
      clear ih hm hr hc97
      go_region_with (go_at_call 14; refine (hc _).mono ?_; rintro e w1 ⟨rfl, hb⟩; try (refine (fun hx => ?_) (hb.cell (p := ⟨w.heap.size, 0, none⟩) ?_); rotate_left; (· simp)))
      all_goals go_wp2
      all_goals go_ret
      all_goals (refine ⟨by rw [HL.out]; rfl, ?_⟩)
      all_goals first | exact ((Below.refl w.heap.size w).drew.trans hb).alloc hb.size _ | exact ((Below.refl w.heap.size w).alloc (Nat.le_refl _) _).drew.trans (hb.mono (by simp))
    · obtain rfl : n = 0 := by omega
      rw [lets_zero]
      exact refLetters_none 0 w (by omega)
end Go.Proofs.YtkigjcdjiheneaaDoor
