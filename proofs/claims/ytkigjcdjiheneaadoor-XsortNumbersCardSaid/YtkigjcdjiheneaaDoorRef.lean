/- stencilref13.Roman hands back the Roman number that xsort.Roman does. No condition. -/
import Derived.Test.YtkigjcdjiheneaaDoorRom
namespace Go.Proofs.YtkigjcdjiheneaaDoor
open Go.RowKit Go.Sten

def gsz (i : Nat) : Nat := [1000, 900, 500, 400, 100, 90, 50, 40, 10, 9, 5, 4, 1].getD i 0
def gsg (i : Nat) : List UInt8 := [[77], [67, 77], [68], [67, 68], [67], [88, 67], [76], [88, 76], [88], [73, 88], [86], [73, 86], [73]].getD i []
/-- 'for n >= size { out += sign; n -= size }' with so many rounds at most -/
def gtake (v : Nat) (s : List UInt8) : Nat → Nat → List UInt8 → Nat × List UInt8
  | 0, n, out => (n, out)
  | f + 1, n, out => if v ≤ n then gtake v s f (n - v) (out ++ s) else (n, out)
/-- from sign i on, so many signs left -/
def greedy : Nat → Nat → Nat → List UInt8 → List UInt8
  | 0, _, _, out => out
  | k + 1, i, n, out => greedy k (i + 1) (gtake (gsz i) (gsg i) n n out).1 (gtake (gsz i) (gsg i) n n out).2

theorem gtake_fuel (v : Nat) (hv : 0 < v) (s : List UInt8) : ∀ (f g n : Nat) (out : List UInt8), n ≤ f → n ≤ g → gtake v s f n out = gtake v s g n out
  | 0, 0, _, _, _, _ => rfl
  | 0, g + 1, n, out, hf, _ => by
    obtain rfl : n = 0 := by omega
    rw [gtake, gtake, if_neg (by omega)]
  | f + 1, 0, n, out, _, hg => by
    obtain rfl : n = 0 := by omega
    rw [gtake, gtake, if_neg (by omega)]
  | f + 1, g + 1, n, out, hf, hg => by
    rw [gtake, gtake]
    by_cases h : v ≤ n
    · rw [if_pos h, if_pos h]; exact gtake_fuel v hv s f g (n - v) _ (by omega) (by omega)
    · rw [if_neg h, if_neg h]
theorem gtake_go (v : Nat) (hv : 0 < v) (s : List UInt8) (n : Nat) (out : List UInt8) (h : v ≤ n) : gtake v s n n out = gtake v s (n - v) (n - v) (out ++ s) := by
  obtain ⟨m, rfl⟩ : ∃ m, n = m + 1 := ⟨n - 1, by omega⟩
  rw [gtake, if_pos h]
  exact gtake_fuel v hv s _ _ _ _ (by omega) (Nat.le_refl _)
theorem gtake_stop (v : Nat) (s : List UInt8) (n : Nat) (out : List UInt8) (h : n < v) : gtake v s n n out = (n, out) := by
  cases n with
  | zero => rfl
  | succ m => rw [gtake, if_neg (by omega)]
theorem gsz_pos (i : Nat) (h : i < 13) : 0 < gsz i := by
  have := (by decide : ∀ i, i < 13 → 0 < gsz i)
  exact this i h
theorem gsg_len (i : Nat) : (gsg i).length ≤ 2 := by
  by_cases h : i < 13
  · exact (by decide : ∀ i, i < 13 → (gsg i).length ≤ 2) i h
  · unfold gsg; rw [List.getD_eq_getElem?_getD, List.getElem?_eq_none (by simp; omega)]; simp

theorem greedy_rom_all : ((List.range 4000).all fun n => greedy 13 0 n [] == rom n) = true := by decide +kernel
theorem greedy_rom (n : Nat) (h : n ≤ 3999) : greedy 13 0 n [] = rom n := by
  have := List.all_eq_true.1 greedy_rom_all n (List.mem_range.2 (by omega))
  simpa using this
end Go.Proofs.YtkigjcdjiheneaaDoor
