/- stencillaw02.live returns true. -/
import Derived.Test.YtclpgacaecfjlaaDoorFmt
import Derived.Test.YtclpgacaecfjlaaDoorQuo
import Derived.Test.YtclpgacaecfjlaaDoorWhl
namespace Go.Proofs.YtclpgacaecfjlaaDoor
open Go.RowKit Go.Sten Go.Lib Go.Sort Go.Shelf

theorem plain_live : Plain ⟨#[35, 44, 35, 35, 48, 46, 48, 48]⟩ ⟨#[35, 44, 35, 35, 48]⟩ ⟨#[48, 48]⟩ [35, 35, 35, 48] where
  len := by decide +kernel
  ascii := by decide +kernel
  head := by kernel_rfl
  tail := by kernel_rfl
  cut := by kernel_rfl
  plain := by kernel_rfl
  a1 := by kernel_rfl
  a2 := by kernel_rfl
  b1 := by kernel_rfl
  b2 := by kernel_rfl
  b3 := by kernel_rfl
  c1 := by kernel_rfl
  c2 := by kernel_rfl
  d := by kernel_rfl

theorem dec_1234 : Lib.decDigits 1234 = [49, 50, 51, 52] := by simp [Lib.decDigits]
theorem dec_0 : Lib.decDigits 0 = [48] := by simp [Lib.decDigits]
theorem six_57 : sixL 1234570000 = [53, 55, 48, 48, 48, 48] := by simp [sixL, Lib.decDigits]
theorem six_33 : sixL 333333 = [51, 51, 51, 51, 51, 51] := by simp [sixL, Lib.decDigits]
theorem fmt_live : fmtL [35, 44, 35, 35, 48] [48, 48] 1234567000 = [49, 44, 50, 51, 52, 46, 53, 55] := by
  have e : rndN 1234567000 2 = 1234570000 := by decide +kernel
  have e0 : s0L 1234570000 = [49, 50, 51, 52] := by unfold s0L; rw [if_neg (by omega)]; exact dec_1234
  show figL _ _ 1234567000 = _
  unfold figL s2L behL b0L s1L
  rw [show ([48, 48] : List UInt8).length = 2 from rfl, e, e0, six_57]
  kernel_rfl
theorem text_live : textN 0 333333 = [48, 46, 51, 51, 51, 51, 51, 51] := by
  show textF 333333 false = _
  unfold textF
  rw [show (333333 : Nat) / 1000000 = 0 from rfl, dec_0, six_33]
  kernel_rfl

set_option maxHeartbeats 4000000 in
set_option maxRecDepth 100000 in
theorem live_any (w : World) (hE : Env w) : Calls Tryd.prog 7 #[] w fun e w' => e = .returned (.bool true) ∧ Below w.heap.size w w' := by
  have C1 : Aside (∀ W', Env W' → Calls Tryd.prog 18 #[.agg #[.int .i64 0, .int .i64 1234567000], .string ⟨#[35, 44, 35, 35, 48, 46, 48, 48]⟩] W' fun e w' => e = .returned (.tuple #[.string ⟨#[49, 44, 50, 51, 52, 46, 53, 55]⟩, .int .i64 0]) ∧ Below W'.heap.size W' w') := fun W' h => by
    have h := fmt_any _ _ _ _ 1234567000 W' plain_live h (by omega) (by omega) (by kernel_rfl) (by kernel_rfl) (fun _ => by decide +kernel)
    rw [show (⟨#[35, 44, 35, 35, 48]⟩ : ByteArray).data.toList = [35, 44, 35, 35, 48] from rfl, show (⟨#[48, 48]⟩ : ByteArray).data.toList = [48, 48] from rfl, fmt_live] at h
    exact h
  have I1 : Aside (∀ W', Calls Tryd.prog 16 #[.int .i64 1] W' fun e w' => e = .returned (.agg #[.int .i64 0, .int .i64 1000000]) ∧ Gw W' w') := fun W' => int_any 1 W'
  have I3 : Aside (∀ W', Calls Tryd.prog 16 #[.int .i64 3] W' fun e w' => e = .returned (.agg #[.int .i64 0, .int .i64 3000000]) ∧ Gw W' w') := fun W' => int_any 3 W'
  have I5 : Aside (∀ W', Calls Tryd.prog 16 #[.int .i64 (-5)] W' fun e w' => e = .returned (.agg #[.int .i64 0, .int .i64 (-5000000)]) ∧ Gw W' w') := fun W' => int_any (-5) W'
  have I2 : Aside (∀ W', Calls Tryd.prog 16 #[.int .i64 (-2)] W' fun e w' => e = .returned (.agg #[.int .i64 0, .int .i64 (-2000000)]) ∧ Gw W' w') := fun W' => int_any (-2) W'
  have D : Aside (∀ W', Calls Tryd.prog 20 #[.agg #[.int .i64 0, .int .i64 1000000], .agg #[.int .i64 0, .int .i64 3000000]] W' fun e w' => e = .returned (.agg #[.int .i64 0, .int .i64 333333]) ∧ Gw W' w') := fun W' => by
    have h := div_any 0 1000000 0 3000000 W' (by omega) (by omega) (by omega) (by omega)
    rw [show divN 0 1000000 0 3000000 = (0, 333333) by decide +kernel] at h
    exact h
  have T : Aside (∀ W', Env W' → Calls Tryd.prog 19 #[.agg #[.int .i64 0, .int .i64 333333]] W' fun e w' => e = .returned (.string ⟨#[48, 46, 51, 51, 51, 51, 51, 51]⟩) ∧ Gw W' w') := fun W' h => by
    have h := text_any 0 333333 W' (by omega) (by omega) h
    rw [text_live] at h
    exact h
  have M : Aside (∀ W', Calls Tryd.prog 17 #[.agg #[.int .i64 0, .int .i64 (-5000000)], .agg #[.int .i64 0, .int .i64 3000000]] W' fun e w' => e = .returned (.agg #[.int .i64 0, .int .i64 (-2000000)]) ∧ Gw W' w') := fun W' => by
    have h := mod_any 0 (-5000000) 0 3000000 W' (by omega) (by omega)
    rw [show modN 0 (-5000000) 0 3000000 = (0, -2000000) by decide +kernel] at h
    exact h
  have HE := hid hE
  clear hE
  go_enter Tryd.func7, Tryd.ntmps7
  go_wp2_with fail
  refine (C1.out _ HE.out).mono ?_
  rintro _ w1 ⟨rfl, hb1⟩
  go_wp2_with fail
  refine (I1.out _).mono ?_
  rintro _ w2 ⟨rfl, g2⟩
  go_wp2_with fail
  refine (I3.out _).mono ?_
  rintro _ w3 ⟨rfl, g3⟩
  go_wp2_with fail
  refine (D.out _).mono ?_
  rintro _ w4 ⟨rfl, g4⟩
  have h4 := hid (below_then hb1 hb1.size ((g2.trans g3).trans g4).below)
  clear g2 g3 g4 hb1
  go_wp2_with fail
  refine (T.out _ (HE.out.below h4.out)).mono ?_
  rintro _ w5 ⟨rfl, g5⟩
  go_wp2_with fail
  refine (I5.out _).mono ?_
  rintro _ w6 ⟨rfl, g6⟩
  go_wp2_with fail
  refine (I3.out _).mono ?_
  rintro _ w7 ⟨rfl, g7⟩
  go_wp2_with fail
  refine (M.out _).mono ?_
  rintro _ w8 ⟨rfl, g8⟩
  go_wp2_with fail
  refine (I2.out _).mono ?_
  rintro _ w9 ⟨rfl, g9⟩
  have h9 := hid (below_then h4.out h4.out.size ((((g5.trans g6).trans g7).trans g8).trans g9).below)
  clear g5 g6 g7 g8 g9
  go_wp2_with fail
  go_ret
  exact ⟨rfl, h9.out⟩
end Go.Proofs.YtclpgacaecfjlaaDoor
