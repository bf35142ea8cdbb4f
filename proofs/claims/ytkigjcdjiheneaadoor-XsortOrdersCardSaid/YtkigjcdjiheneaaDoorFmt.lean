/- xsort.Format: what it hands back, a theorem a way. The table of strconv is asked where Itoa reads it. -/
import Derived.Test.YtkigjcdjiheneaaDoorLet
import Derived.Test.YtkigjcdjiheneaaDoorRom
namespace Go.Proofs.YtkigjcdjiheneaaDoor
open Go.RowKit Go.Sten

set_option maxHeartbeats 400000 in
theorem plain_any (s : ByteArray) (w : World) :
    Calls Tryd.prog 33 #[.string s] w fun e w' => e = .returned (.bool (Lib.trimLeftB s.data.toList 48 == [49])) ∧ w = w' := by
  have hc := fun W => Tryd.strings_TrimLeft_one s 48 (by decide) W
  go_enter Tryd.func33, Tryd.ntmps33
  go_wp2_with (go_at_call 55; refine (hc _).mono ?_; rintro e w' ⟨rfl, rfl⟩)
  go_ret
  exact ⟨rfl, rfl⟩

theorem rsign_ascii (k : Nat) : (rsign k).toNat < 128 := by
  by_cases h : k < 9
  · exact (by decide : ∀ k, k < 9 → (rsign k).toNat < 128) k h
  · unfold rsign; rw [List.getD_eq_getElem?_getD, List.getElem?_eq_none (by simp; omega)]; decide
theorem rdig_ascii (k d : Nat) : ∀ b ∈ rdig k d, b.toNat < 128 := by
  intro b hb
  unfold rdig at hb
  split at hb
  · simp at hb; rcases hb with rfl | rfl <;> exact rsign_ascii _
  · split at hb
    · simp at hb; rcases hb with rfl | rfl <;> exact rsign_ascii _
    · split at hb
      · rcases List.mem_cons.1 hb with rfl | hb
        · exact rsign_ascii _
        · rw [(List.mem_replicate.1 hb).2]; exact rsign_ascii _
      · rw [(List.mem_replicate.1 hb).2]; exact rsign_ascii _
theorem romS_ascii (n : Nat) : ∀ k, ∀ b ∈ romS n k, b.toNat < 128
  | 0, b, hb => by simp [romS] at hb
  | k + 1, b, hb => by
    rw [romS] at hb
    rcases List.mem_append.1 hb with hb | hb
    · exact rdig_ascii _ _ b hb
    · exact romS_ascii n k b hb
theorem rom_ascii (n : Nat) (j : Nat) (b : UInt8) (h : (rom n)[j]? = some b) : b.toNat < 128 := romS_ascii n 4 b (List.mem_of_getElem? h)
theorem rom_len (n : Nat) : (rom n).length ≤ 20 := romS_len n 4
theorem romS_step (n k : Nat) (h : 1 ≤ n / 10 ^ k % 10) : 0 < (romS n (k + 1)).length := by
  rw [romS, List.length_append]
  have : 0 < (rdig k (n / 10 ^ k % 10)).length := by
    unfold rdig
    split
    · simp
    · split
      · simp
      · split
        · simp
        · simp; omega
  omega
theorem romS_more (n k : Nat) (h : 0 < (romS n k).length) : 0 < (romS n (k + 1)).length := by rw [romS, List.length_append]; omega
theorem rom_pos (n : Nat) (h1 : 1 ≤ n) (h2 : n ≤ 3999) : 0 < (rom n).length := by
  unfold rom
  by_cases a3 : 1 ≤ n / 10 ^ 3 % 10
  · exact romS_step n 3 a3
  · by_cases a2 : 1 ≤ n / 10 ^ 2 % 10
    · exact romS_more n 3 (romS_step n 2 a2)
    · by_cases a1 : 1 ≤ n / 10 ^ 1 % 10
      · exact romS_more n 3 (romS_more n 2 (romS_step n 1 a1))
      · exact romS_more n 3 (romS_more n 2 (romS_more n 1 (romS_step n 0 (by omega))))

theorem lowRom (n : Nat) (W : World) :
    Calls Tryd.prog 31 #[.string ⟨(rom n).toArray⟩] W fun e w' => e = .returned (.string ⟨(Lib.toLowerA (rom n)).toArray⟩) ∧ Below W.heap.size W w' := by
  have h := Tryd.strings_ToLower_ascii ⟨(rom n).toArray⟩ W (by show (rom n).toArray.size ≤ _; have := rom_len n; simp; omega) (fun j b hj => rom_ascii n j b (by simpa using hj))
  simpa using h

set_option maxHeartbeats 400000 in
theorem fmt_a (n : Nat) (w : World) (h1 : 1 ≤ n) (h2 : (n : Int) ≤ 1099511627777) :
    Calls Tryd.prog 19 #[.int .i64 n, .string ⟨#[97]⟩] w fun e w' => e = .returned (.tuple #[.string ⟨(lets n).toArray⟩, .int .i64 0]) ∧ w = w' := by
  have hc := fun W => letters_any n W h2
  go_enter Tryd.func19, Tryd.ntmps19
  go_wp2_with fail
  go_step3
  go_wp2_with (go_at_call 13; refine (hc _).mono ?_; rintro e w' ⟨rfl, rfl⟩)
  rw [Exit.noGoto_ret]
  go_ret2
  exact ⟨rfl, rfl⟩

set_option maxHeartbeats 400000 in
theorem fmt_i (n : Nat) (w : World) (h1 : 1 ≤ n) (h2 : n ≤ 3999) :
    Calls Tryd.prog 19 #[.int .i64 n, .string ⟨#[105]⟩] w fun e w' => e = .returned (.tuple #[.string ⟨(Lib.toLowerA (rom n)).toArray⟩, .int .i64 0]) ∧ Below w.heap.size w w' := by
  have hr := fun W => roman_any n W h1 h2
  have hl := fun W => lowRom n W
  have hne : 0 < (Lib.toLowerA (rom n)).length := by unfold Lib.toLowerA; rw [List.length_map]; exact rom_pos n h1 h2
  obtain ⟨R, hR⟩ : ∃ R, R = rom n := ⟨_, rfl⟩
  rw [← hR] at hl hr hne ⊢
  obtain ⟨L, hL⟩ : ∃ L, L = Lib.toLowerA R := ⟨_, rfl⟩
  rw [← hL] at hl hne ⊢
  clear hL hR
  have hne2 : L.isEmpty = false := by cases L with | nil => simp at hne | cons _ _ => rfl
  have hne3 : ¬ L = [] := by intro e; rw [e] at hne2; cases hne2
  go_enter Tryd.func19, Tryd.ntmps19
  go_wp2_with fail
  go_step3
  go_wp2_with (first | (go_at_call 11; refine (hr _).mono ?_; rintro e w1 ⟨rfl, hb1⟩) | (go_at_call 31; refine (hl _).mono ?_; rintro e w2 ⟨rfl, hb2⟩))
  rw [Exit.noGoto_ret]
  go_ret2
  exact ⟨rfl, below_both hb1 hb2⟩

set_option maxHeartbeats 400000 in
theorem fmt_07 (w : World) :
    Calls Tryd.prog 19 #[.int .i64 7, .string ⟨#[48, 49]⟩] w fun e w' => e = .returned (.tuple #[.string ⟨#[48, 55]⟩, .int .i64 0]) ∧ Below w.heap.size w w' := by
  have hp := fun W => plain_any ⟨#[48, 49]⟩ W
  have hi := fun W => Tryd.strconv_Itoa_small 7 (by decide) W
  have hr := fun W => Tryd.strings_Repeat_one ⟨#[48]⟩ W
  rw [show (Lib.trimLeftB (⟨#[48, 49]⟩ : ByteArray).data.toList 48 == [49]) = true by decide] at hp
  rw [show Lib.decDigits 7 = [55] by rw [Lib.decDigits, dif_pos (by omega)]; rfl] at hi
  go_enter Tryd.func19, Tryd.ntmps19
  go_wp2_with fail
  go_step3
  go_wp2_with (first | (go_at_call 33; refine (hp _).mono ?_; rintro e w' ⟨rfl, rfl⟩) | (go_at_call 32; refine (hi _).mono ?_; rintro e w1 ⟨rfl, rfl⟩) | (go_at_call 23; refine (hr _).mono ?_; rintro e w1 ⟨rfl, rfl⟩))
  rw [Exit.noGoto_ret]
  go_ret2
  exact ⟨rfl, Below.refl _ _⟩

theorem lets_27 : lets 27 = [97, 97] := by
  rw [lets_pos 27 (by omega), show (27 - 1) / 26 = 1 from rfl, lets_pos 1 (by omega), show (1 - 1) / 26 = 0 from rfl, lets_zero]; rfl
theorem rom_4 : Lib.toLowerA (rom 4) = [105, 118] := by decide

set_option maxHeartbeats 400000 in
/-- what must be whatever is asked -/
theorem live_any (w : World) :
    Calls Tryd.prog 10 #[] w fun e w' => e = .returned (.bool true) ∧ Below w.heap.size w w' := by
  have h1 := fun W => fmt_a 27 W (by decide) (by decide)
  have h2 := fun W => fmt_i 4 W (by decide) (by decide)
  have h3 := fun W => fmt_07 W
  rw [lets_27] at h1
  rw [rom_4] at h2
  go_enter Tryd.func10, Tryd.ntmps10
  go_wp2_with fail
  refine (h1 _).mono ?_
  rintro e w1 ⟨rfl, rfl⟩
  go_wp2_with fail
  refine (h2 _).mono ?_
  rintro e w1 ⟨rfl, hb1⟩
  go_wp2_with fail
  refine (h3 _).mono ?_
  rintro e w2 ⟨rfl, hb2⟩
  go_wp2_with fail
  go_ret
  exact ⟨rfl, below_both hb1 hb2⟩
end Go.Proofs.YtkigjcdjiheneaaDoor
