/- xsort.Roman and stencilref13.Roman: both hand back the Roman number. No condition. -/
import Derived.Test.YtkigjcdjiheneaaDoorShelf
import Derived.Test.YtkigjcdjiheneaaDoorAid
import Derived.WalkKit
import Derived.WalkSpells
import Derived.WalkLawsBesides
import Derived.Deep.QuietTactic
import Derived.BigQuiet
import Derived.Handy
namespace Go.Proofs.YtkigjcdjiheneaaDoor
open Go.RowKit Go.Sten

def rsign (k : Nat) : UInt8 := [73, 86, 88, 76, 67, 68, 77, 32, 32].getD k 32
def rdig (k d : Nat) : List UInt8 :=
  if d = 9 then [rsign (2 * k), rsign (2 * k + 2)] else if d = 4 then [rsign (2 * k), rsign (2 * k + 1)]
  else if 5 ≤ d then rsign (2 * k + 1) :: List.replicate (d % 5) (rsign (2 * k)) else List.replicate (d % 5) (rsign (2 * k))
def romS (n : Nat) : Nat → List UInt8
  | 0 => []
  | k + 1 => rdig k (n / 10 ^ k % 10) ++ romS n k
theorem rdig_len (k d : Nat) : (rdig k d).length ≤ 5 := by
  unfold rdig
  split
  · simp
  · split
    · simp
    · split
      · simp; omega
      · simp; omega
theorem romS_len (n : Nat) : ∀ k, (romS n k).length ≤ 5 * k
  | 0 => by simp [romS]
  | k + 1 => by rw [romS, List.length_append]; have := romS_len n k; have := rdig_len k (n / 10 ^ k % 10); omega
theorem div_step {n k m : Nat} (h : m = n / 10 ^ k) : m / 10 = n / 10 ^ (k + 1) := by rw [h, Nat.div_div_eq_div_mul, Nat.pow_succ]
theorem ways9 {n k m : Nat} {l : List UInt8} (c1 c5 c10 : UInt8) (h1 : rsign (2 * k) = c1) (h5 : rsign (2 * k + 1) = c5) (h10 : rsign (2 * k + 2) = c10) (h : m = n / 10 ^ k) (hl : l = romS n k) :
    (((m : Int) % 10 == 9) = true → Value.string ((⟨#[c1]⟩ : ByteArray) ++ ⟨#[c10]⟩ ++ ⟨l.toArray⟩) = Value.string ⟨(romS n (k + 1)).toArray⟩) ∧
    (((m : Int) % 10 == 9) = false → ((m : Int) % 10 == 4) = true → Value.string ((⟨#[c1]⟩ : ByteArray) ++ ⟨#[c5]⟩ ++ ⟨l.toArray⟩) = Value.string ⟨(romS n (k + 1)).toArray⟩) ∧
    (((m : Int) % 10 == 9) = false → ((m : Int) % 10 == 4) = false → 5 ≤ (m : Int) % 10 → Value.string ((⟨#[c5]⟩ : ByteArray) ++ ⟨Array.replicate (m % 5) c1⟩ ++ ⟨l.toArray⟩) = Value.string ⟨(romS n (k + 1)).toArray⟩) ∧
    (((m : Int) % 10 == 9) = false → ((m : Int) % 10 == 4) = false → (m : Int) % 10 < 5 → Value.string ((⟨Array.replicate (m % 5) c1⟩ : ByteArray) ++ ⟨l.toArray⟩) = Value.string ⟨(romS n (k + 1)).toArray⟩) := by
  have e : romS n (k + 1) = rdig k (m % 10) ++ l := by rw [romS, ← h, ← hl]
  have e5 : m % 10 % 5 = m % 5 := by omega
  have er : (⟨Array.replicate (m % 5) c1⟩ : ByteArray) = ⟨(List.replicate (m % 5) c1).toArray⟩ := by simp
  rw [e]
  unfold rdig
  rw [h1, h5, h10, e5, er]
  simp only [beq_iff_eq, beq_eq_false_iff_ne, ne_eq]
  refine ⟨fun a => ?_, fun a b => ?_, fun a b c => ?_, fun a b c => ?_⟩
  · rw [if_pos (by omega)]
    exact congrArg Value.string ((congrArg (· ++ (⟨l.toArray⟩ : ByteArray)) (bcat [c1] [c10])).trans (bcat _ l))
  · rw [if_neg (by omega), if_pos (by omega)]
    exact congrArg Value.string ((congrArg (· ++ (⟨l.toArray⟩ : ByteArray)) (bcat [c1] [c5])).trans (bcat _ l))
  · rw [if_neg (by omega), if_neg (by omega), if_pos (by omega)]
    exact congrArg Value.string ((congrArg (· ++ (⟨l.toArray⟩ : ByteArray)) (bcat [c5] _)).trans (bcat _ l))
  · rw [if_neg (by omega), if_neg (by omega), if_neg (by omega)]
    exact congrArg Value.string (bcat _ l)
def rom (n : Nat) : List UInt8 := romS n 4

set_option maxHeartbeats 400000 in
theorem roman_none (n : Int) (w : World) (hn : n < 1 ∨ 3999 < n) :
    Calls Tryd.prog 11 #[.int .i64 n] w fun e w' => e = .returned (.string ⟨#[]⟩) ∧ w = w' := by
  by_cases h : n < 1
  · go_enter Tryd.func11, Tryd.ntmps11
    go_wp2
    go_ret
    exact ⟨rfl, rfl⟩
  · have h2 : 3999 < n := by omega
    go_enter Tryd.func11, Tryd.ntmps11
    go_wp2
    go_ret
    exact ⟨rfl, rfl⟩

theorem repeatL_one (c : UInt8) : ∀ k, Lib.repeatL [c] k = List.replicate k c
  | 0 => rfl
  | k + 1 => by rw [Lib.repeatL, repeatL_one c k]; rfl
theorem rep_any (c : UInt8) (m : Nat) (W : World) :
    Calls Tryd.prog 23 #[.string ⟨#[c]⟩, .int .i64 ((m : Int) % 5)] W fun e w' => e = .returned (.string ⟨(List.replicate (m % 5) c).toArray⟩) ∧ Below W.heap.size W w' := by
  have e : ((m : Int) % 5) = ((m % 5 : Nat) : Int) := by omega
  rw [e]
  have h := Tryd.strings_Repeat ⟨#[c]⟩ (m % 5) W (by omega) (by show 1 * _ ≤ _; omega)
  rwa [show (⟨#[c]⟩ : ByteArray).data.toList = [c] from rfl, repeatL_one] at h

set_option maxHeartbeats 400000 in
set_option maxRecDepth 100000 in
theorem roman_any (n : Nat) (w : World) (h1 : 1 ≤ n) (h2 : n ≤ 3999) :
    Calls Tryd.prog 11 #[.int .i64 n] w fun e w' => e = .returned (.string ⟨(rom n).toArray⟩) ∧ Below w.heap.size w w' := by
  go_enter Tryd.func11, Tryd.ntmps11
  go_wp2
  go_loopw [0, 3, 17] (fun nv s i wr => ∃ k : Nat, k ≤ 4 ∧ i = .int .i64 k ∧ nv = .int .i64 (n / 10 ^ k : Nat) ∧ s = .string ⟨(romS n k).toArray⟩ ∧ Below w.heap.size w wr) (fun _ _ i _ => 4 - (intOf i).toNat)
  case atStart => exact ⟨0, by omega, rfl, by simp, rfl, Below.refl _ _⟩
  case round =>
    obtain ⟨k, hk, rfl, rfl, rfl, hb⟩ := hrel
    obtain ⟨m, hm⟩ : ∃ m, m = n / 10 ^ k := ⟨_, rfl⟩
    have hm2 : m ≤ 3999 := by rw [hm]; exact Nat.le_trans (Nat.div_le_self _ _) h2
    rw [← hm]
    have HM : Hid (m = n / 10 ^ k) := hm
    clear hm
    obtain ⟨l, hl⟩ : ∃ l, l = romS n k := ⟨_, rfl⟩
    have hlen : l.length ≤ 20 := by rw [hl]; have := romS_len n k; omega
    rw [← hl]
    have HL : Hid (l = romS n k) := hl
    clear hl
    have h5 : k = 0 ∨ k = 1 ∨ k = 2 ∨ k = 3 ∨ k = 4 := by omega
    rcases h5 with rfl | rfl | rfl | rfl | rfl
    · have e0 : (⟨#[73, 86, 88, 76, 67, 68, 77, 32, 32]⟩ : ByteArray).extract 0 9 = ⟨#[73, 86, 88, 76, 67, 68, 77, 32, 32]⟩ := by decide +kernel
      have e1 : (⟨#[73, 86, 88, 76, 67, 68, 77, 32, 32]⟩ : ByteArray).extract 0 1 = ⟨#[73]⟩ := by decide +kernel
      have e2 : (⟨#[73, 86, 88, 76, 67, 68, 77, 32, 32]⟩ : ByteArray).extract 1 2 = ⟨#[86]⟩ := by decide +kernel
      have e3 : (⟨#[73, 86, 88, 76, 67, 68, 77, 32, 32]⟩ : ByteArray).extract 2 3 = ⟨#[88]⟩ := by decide +kernel
      have hrep := fun W => rep_any 73 m W
      go_wp2_with fail
      go_quiet (fail)
      go_wp2_with (go_at_call 23; refine (hrep _).mono ?_; rintro e w1 ⟨rfl, hb1⟩)
      all_goals go_roundw
      all_goals first | (case measure => simp [intOf]) | skip
      all_goals
        have W9 := ways9 73 86 88 (by rfl) (by rfl) (by rfl) HM.out HL.out
        refine ⟨1, by omega, by go_num, ?_, ?_, ?_⟩
        · rw [← div_step HM.out]; rfl
        · first | exact W9.1 (by assumption) | exact W9.2.1 (by assumption) (by assumption) | exact W9.2.2.1 (by assumption) (by assumption) (by assumption) | exact W9.2.2.2 (by assumption) (by assumption) (by assumption)
        · exact below_quiet hb hb1
    · have e0 : (⟨#[73, 86, 88, 76, 67, 68, 77, 32, 32]⟩ : ByteArray).extract 2 9 = ⟨#[88, 76, 67, 68, 77, 32, 32]⟩ := by decide +kernel
      have e1 : (⟨#[88, 76, 67, 68, 77, 32, 32]⟩ : ByteArray).extract 0 1 = ⟨#[88]⟩ := by decide +kernel
      have e2 : (⟨#[88, 76, 67, 68, 77, 32, 32]⟩ : ByteArray).extract 1 2 = ⟨#[76]⟩ := by decide +kernel
      have e3 : (⟨#[88, 76, 67, 68, 77, 32, 32]⟩ : ByteArray).extract 2 3 = ⟨#[67]⟩ := by decide +kernel
      have hrep := fun W => rep_any 88 m W
      go_wp2_with fail
      go_quiet (fail)
      go_wp2_with (go_at_call 23; refine (hrep _).mono ?_; rintro e w1 ⟨rfl, hb1⟩)
      all_goals go_roundw
      all_goals first | (case measure => simp [intOf]) | skip
      all_goals
        have W9 := ways9 88 76 67 (by rfl) (by rfl) (by rfl) HM.out HL.out
        refine ⟨2, by omega, by go_num, ?_, ?_, ?_⟩
        · rw [← div_step HM.out]; rfl
        · first | exact W9.1 (by assumption) | exact W9.2.1 (by assumption) (by assumption) | exact W9.2.2.1 (by assumption) (by assumption) (by assumption) | exact W9.2.2.2 (by assumption) (by assumption) (by assumption)
        · exact below_quiet hb hb1
    · have e0 : (⟨#[73, 86, 88, 76, 67, 68, 77, 32, 32]⟩ : ByteArray).extract 4 9 = ⟨#[67, 68, 77, 32, 32]⟩ := by decide +kernel
      have e1 : (⟨#[67, 68, 77, 32, 32]⟩ : ByteArray).extract 0 1 = ⟨#[67]⟩ := by decide +kernel
      have e2 : (⟨#[67, 68, 77, 32, 32]⟩ : ByteArray).extract 1 2 = ⟨#[68]⟩ := by decide +kernel
      have e3 : (⟨#[67, 68, 77, 32, 32]⟩ : ByteArray).extract 2 3 = ⟨#[77]⟩ := by decide +kernel
      have hrep := fun W => rep_any 67 m W
      go_wp2_with fail
      go_quiet (fail)
      go_wp2_with (go_at_call 23; refine (hrep _).mono ?_; rintro e w1 ⟨rfl, hb1⟩)
      all_goals go_roundw
      all_goals first | (case measure => simp [intOf]) | skip
      all_goals
        have W9 := ways9 67 68 77 (by rfl) (by rfl) (by rfl) HM.out HL.out
        refine ⟨3, by omega, by go_num, ?_, ?_, ?_⟩
        · rw [← div_step HM.out]; rfl
        · first | exact W9.1 (by assumption) | exact W9.2.1 (by assumption) (by assumption) | exact W9.2.2.1 (by assumption) (by assumption) (by assumption) | exact W9.2.2.2 (by assumption) (by assumption) (by assumption)
        · exact below_quiet hb hb1
    · have e0 : (⟨#[73, 86, 88, 76, 67, 68, 77, 32, 32]⟩ : ByteArray).extract 6 9 = ⟨#[77, 32, 32]⟩ := by decide +kernel
      have e1 : (⟨#[77, 32, 32]⟩ : ByteArray).extract 0 1 = ⟨#[77]⟩ := by decide +kernel
      have e2 : (⟨#[77, 32, 32]⟩ : ByteArray).extract 1 2 = ⟨#[32]⟩ := by decide +kernel
      have e3 : (⟨#[77, 32, 32]⟩ : ByteArray).extract 2 3 = ⟨#[32]⟩ := by decide +kernel
      have hrep := fun W => rep_any 77 m W
      go_wp2_with fail
      go_quiet (fail)
      go_wp2_with (go_at_call 23; refine (hrep _).mono ?_; rintro e w1 ⟨rfl, hb1⟩)
      all_goals go_roundw
      all_goals first | (case measure => simp [intOf]) | skip
      all_goals
        have W9 := ways9 77 32 32 (by rfl) (by rfl) (by rfl) HM.out HL.out
        refine ⟨4, by omega, by go_num, ?_, ?_, ?_⟩
        · rw [← div_step HM.out]; rfl
        · first | exact W9.1 (by assumption) | exact W9.2.1 (by assumption) (by assumption) | exact W9.2.2.1 (by assumption) (by assumption) (by assumption) | exact W9.2.2.2 (by assumption) (by assumption) (by assumption)
        · exact below_quiet hb hb1
    · go_wp2
      go_ret
      exact ⟨by rw [HL.out]; rfl, hb⟩
end Go.Proofs.YtkigjcdjiheneaaDoor
