/- The reference's rows compared: key, ahead. -/
import Derived.Test.YtkigjcdjiheneaaDoorRnk
namespace Go.Proofs.YtkigjcdjiheneaaDoor
open Go.RowKit Go.Sten Go.Lib Go.Shelf

set_option maxHeartbeats 400000 in
set_option maxRecDepth 100000 in
theorem key_out (A : Option Addr) (n c : Nat) (i : Nat) (w : World) (hn : n ≤ i) (_hi : (i : Int) ≤ 1000000) :
    Calls Tryd.prog 49 #[.slice A n c, .int .i64 i] w fun e w' => e = .returned KeyD.zero.val ∧ Gw w w' := by
  go_enter Tryd.func49, Tryd.ntmps49
  go_wp2
  go_returns
  exact ⟨rfl, (Gw.refl w).alloc _⟩

set_option maxHeartbeats 400000 in
set_option maxRecDepth 100000 in
theorem key_in (b n c : Nat) (i : Nat) (k : KeyD) (w : World) (hn : i < n) (_hm : (n : Int) ≤ 1000000) (hb : b < w.heap.size)
    (h0 : w.cell? ⟨b, i * 5, none⟩ = some (.bool k.number)) (h1 : w.cell? ⟨b, i * 5 + 1, none⟩ = some (.bool k.down)) (h2 : w.cell? ⟨b, i * 5 + 2, none⟩ = some (.string k.text))
    (h3 : w.cell? ⟨b, i * 5 + 3, none⟩ = some (.int .i64 k.kind)) (h4 : w.cell? ⟨b, i * 5 + 4, none⟩ = some (.int .i64 k.v)) :
    Calls Tryd.prog 49 #[.slice (some ⟨b, 0, none⟩) n c, .int .i64 i] w fun e w' => e = .returned k.val ∧ Gw w w' := by
  go_enter Tryd.func49, Tryd.ntmps49
  go_wp2
  go_returns
  exact ⟨rfl, (Gw.refl w).alloc _⟩

theorem key_any (A : Option Addr) (c : Nat) (ks : List KeyD) (i : Nat) (w : World) (h : RowIs w A c ks) (hm : (ks.length : Int) ≤ 1000000) (hi : (i : Int) ≤ 1000000) :
    Calls Tryd.prog 49 #[.slice A ks.length c, .int .i64 i] w fun e w' => e = .returned (ks.getD i KeyD.zero).val ∧ Gw w w' := by
  by_cases hn : i < ks.length
  · have e : ks[i]? = some (ks.getD i KeyD.zero) := by simp [List.getD, hn]
    rcases h with ⟨_, h⟩ | ⟨b, h1, h2, h3, h4⟩
    · subst h; simp at hn
    · rw [h1]
      have f := h4 i _ e
      exact key_in b ks.length c i (ks.getD i KeyD.zero) w hn hm h2 (f 0 _ rfl) (f 1 _ rfl) (f 2 _ rfl) (f 3 _ rfl) (f 4 _ rfl)
  · have e : ks.getD i KeyD.zero = KeyD.zero := by simp [List.getD, List.getElem?_eq_none (by omega : ks.length ≤ i)]
    rw [e]
    exact key_out A ks.length c i w (by omega) hi

/-- for a right number the reference's Less is the program's -/
theorem lessR_eq (x y : KeyD) (hx : x.ok) (hy : y.ok) : lessR x.kind x.v y.kind y.v = lessN x.kind x.v y.kind y.v := by
  have range : ∀ k v : Int, rightN k v = true → (k = 0 ∨ ((k = 1 ∨ k = 2 ∨ k = 3) ∧ v = 0)) := fun k v h => by
    unfold rightN at h
    split at h
    · left; assumption
    · split at h
      · right; exact ⟨by assumption, by simpa using h⟩
      · cases h
  have h1 := range _ _ hx
  have h2 := range _ _ hy
  have e : lessR x.kind x.v y.kind y.v = true ↔ lessN x.kind x.v y.kind y.v = true := by
    rw [less_iff]
    rcases h1 with h1 | ⟨h1 | h1 | h1, h1v⟩ <;> rcases h2 with h2 | ⟨h2 | h2 | h2, h2v⟩ <;> simp [lessR, rankN, pl, *]
  cases h3 : lessR x.kind x.v y.kind y.v <;> cases h4 : lessN x.kind x.v y.kind y.v <;> simp_all
end Go.Proofs.YtkigjcdjiheneaaDoor
