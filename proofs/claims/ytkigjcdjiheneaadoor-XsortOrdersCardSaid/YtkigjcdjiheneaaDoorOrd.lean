/- xsort.Order: the comparison of two rows, and the order. -/
import Derived.Test.YtkigjcdjiheneaaDoorCmp
import Derived.Deep.Cut
import Derived.Deep.CutRange
import Derived.Deep.RegionHeld3
import Derived.Deep.LoopGhost
import Derived.Lib.Hide
namespace Go.Proofs.YtkigjcdjiheneaaDoor
open Go.RowKit Go.Sten Go.Lib Go.Shelf

/-- a key -/
structure KeyD where
  number : Bool
  down : Bool
  text : ByteArray
  kind : Int
  v : Int
  deriving Inhabited
def KeyD.zero : KeyD := ⟨false, false, ⟨#[]⟩, 0, 0⟩
def KeyD.cells (k : KeyD) : List Value := [.bool k.number, .bool k.down, .string k.text, .int .i64 k.kind, .int .i64 k.v]
def KeyD.val (k : KeyD) : Value := .agg #[.bool k.number, .bool k.down, .string k.text, .int .i64 k.kind, .int .i64 k.v]

set_option maxHeartbeats 400000 in
set_option maxRecDepth 100000 in
theorem at_out (A : Option Addr) (n c : Nat) (i : Nat) (w : World) (hn : n ≤ i) (_hi : (i : Int) ≤ 1000000) :
    Calls Tryd.prog 27 #[.slice A n c, .int .i64 i] w fun e w' => e = .returned KeyD.zero.val ∧ Gw w w' := by
  go_enter Tryd.func27, Tryd.ntmps27
  go_wp2
  go_returns
  exact ⟨rfl, (Gw.refl w).alloc _⟩

set_option maxHeartbeats 400000 in
set_option maxRecDepth 100000 in
theorem at_in (b n c : Nat) (i : Nat) (k : KeyD) (w : World) (hn : i < n) (_hm : (n : Int) ≤ 1000000) (hb : b < w.heap.size)
    (h0 : w.cell? ⟨b, i * 5, none⟩ = some (.bool k.number)) (h1 : w.cell? ⟨b, i * 5 + 1, none⟩ = some (.bool k.down)) (h2 : w.cell? ⟨b, i * 5 + 2, none⟩ = some (.string k.text))
    (h3 : w.cell? ⟨b, i * 5 + 3, none⟩ = some (.int .i64 k.kind)) (h4 : w.cell? ⟨b, i * 5 + 4, none⟩ = some (.int .i64 k.v)) :
    Calls Tryd.prog 27 #[.slice (some ⟨b, 0, none⟩) n c, .int .i64 i] w fun e w' => e = .returned k.val ∧ Gw w w' := by
  go_enter Tryd.func27, Tryd.ntmps27
  go_wp2
  go_returns
  exact ⟨rfl, (Gw.refl w).alloc _⟩

/-- a row's header and its keys' cells at a world -/
def RowIs (W : World) (A : Option Addr) (c : Nat) (ks : List KeyD) : Prop :=
  (A = none ∧ ks = []) ∨ ∃ b, A = some ⟨b, 0, none⟩ ∧ b < W.heap.size ∧ ks.length ≤ c ∧ ∀ (j : Nat) (k : KeyD), ks[j]? = some k → ∀ (t : Nat) (v : Value), k.cells[t]? = some v → W.cell? ⟨b, j * 5 + t, none⟩ = some v
theorem RowIs.gw {W W' : World} {A : Option Addr} {c : Nat} {ks : List KeyD} (h : RowIs W A c ks) (g : Gw W W') : RowIs W' A c ks := by
  rcases h with h | ⟨b, h1, h2, h3, h4⟩
  · exact Or.inl h
  · exact Or.inr ⟨b, h1, Nat.lt_of_lt_of_le h2 g.size, h3, fun j k hk t v hv => (g.cell (by exact h2)).trans (h4 j k hk t v hv)⟩

theorem at_any (A : Option Addr) (c : Nat) (ks : List KeyD) (i : Nat) (w : World) (h : RowIs w A c ks) (hm : (ks.length : Int) ≤ 1000000) (hi : (i : Int) ≤ 1000000) :
    Calls Tryd.prog 27 #[.slice A ks.length c, .int .i64 i] w fun e w' => e = .returned (ks.getD i KeyD.zero).val ∧ Gw w w' := by
  by_cases hn : i < ks.length
  · have e : ks[i]? = some (ks.getD i KeyD.zero) := by simp [List.getD, hn]
    rcases h with ⟨_, h⟩ | ⟨b, h1, h2, h3, h4⟩
    · subst h; simp at hn
    · rw [h1]
      have f := h4 i _ e
      exact at_in b ks.length c i (ks.getD i KeyD.zero) w hn hm h2 (f 0 _ rfl) (f 1 _ rfl) (f 2 _ rfl) (f 3 _ rfl) (f 4 _ rfl)
  · have e : ks.getD i KeyD.zero = KeyD.zero := by simp [List.getD, List.getElem?_eq_none (by omega : ks.length ≤ i)]
    rw [e]
    exact at_out A ks.length c i w (by omega) hi

/-- two keys compared as the key 'k' of the first row says -/
def keyCmp (k x y : KeyD) : Int :=
  let n := if k.number = true then numN x.kind x.v y.kind y.v else cmpS x.text y.text
  if k.down = true then -n else n
/-- rows compared from a key on -/
def rowCmp (x y : List KeyD) : Nat → List KeyD → Int
  | _, [] => 0
  | i, k :: ks => if keyCmp k (x.getD i KeyD.zero) (y.getD i KeyD.zero) = 0 then rowCmp x y (i + 1) ks else keyCmp k (x.getD i KeyD.zero) (y.getD i KeyD.zero)

/-- one of three -/
def Tri (n : Int) : Prop := n = -1 ∨ n = 0 ∨ n = 1
theorem numN_tri (a b c d : Int) : Tri (numN a b c d) := by unfold numN Tri; split <;> (try split) <;> simp
theorem cmpS_tri (a b : ByteArray) : Tri (cmpS a b) := by unfold cmpS Tri; split <;> (try split) <;> simp

/-- a fresh key's block as a call behind it leaves it -/
def Five (W : World) (b : Nat) : Prop := b < W.heap.size ∧
  (W.cell? ⟨b, 0, none⟩ = some (.bool false) ∧ W.cell? ⟨b, 1, none⟩ = some (.bool false) ∧ W.cell? ⟨b, 2, none⟩ = some (.string ⟨#[]⟩) ∧ W.cell? ⟨b, 3, none⟩ = some (.int .i64 0) ∧ W.cell? ⟨b, 4, none⟩ = some (.int .i64 0)) ∧
  ∀ o, W.frozen? ⟨b, o, none⟩ = false
theorem Five.gw {W W' : World} {b : Nat} (h : Five W b) (g : Gw W W') : Five W' b := by
  obtain ⟨hb, ⟨h0, h1, h2, h3, h4⟩, hf⟩ := h
  exact ⟨Nat.lt_of_lt_of_le hb g.size, ⟨(g.cell hb).trans h0, (g.cell hb).trans h1, (g.cell hb).trans h2, (g.cell hb).trans h3, (g.cell hb).trans h4⟩, fun o => (g.below.frozen hb).trans (hf o)⟩
theorem Five.old {W : World} {b : Nat} {o : Obj} (h : Five W b) : Five (W.alloc o) b := h.gw ((Gw.refl W).alloc o)
theorem Five.new {W : World} : Five (W.alloc (.cells #[.bool false, .bool false, .string ⟨#[]⟩, .int .i64 0, .int .i64 0] 41)) W.heap.size := by
  refine ⟨by simp, ⟨by simp, by simp, by simp, by simp, by simp⟩, fun o => by simp⟩
theorem Five.new1 {W : World} {o : Obj} : Five ((W.alloc o).alloc (.cells #[.bool false, .bool false, .string ⟨#[]⟩, .int .i64 0, .int .i64 0] 41)) (W.heap.size + 1) := by
  have h := Five.new (W := W.alloc o)
  have e : (W.alloc o).heap.size = W.heap.size + 1 := by simp
  rw [e] at h
  exact h
theorem Five.drew {W : World} {b : Nat} (h : Five W b) : Five W.drew b := h.gw ((Gw.refl W).drewN 1)
theorem Five.out {G : Prop} {W : World} {b : Nat} (h : Five W b) (k : b < W.heap.size → W.cell? ⟨b, 0, none⟩ = some (.bool false) → W.cell? ⟨b, 1, none⟩ = some (.bool false) → W.cell? ⟨b, 2, none⟩ = some (.string ⟨#[]⟩) → W.cell? ⟨b, 3, none⟩ = some (.int .i64 0) → W.cell? ⟨b, 4, none⟩ = some (.int .i64 0) →
    W.frozen? ⟨b, 0, none⟩ = false → W.frozen? ⟨b, 1, none⟩ = false → W.frozen? ⟨b, 2, none⟩ = false → W.frozen? ⟨b, 3, none⟩ = false → W.frozen? ⟨b, 4, none⟩ = false → G) : G :=
  k h.1 h.2.1.1 h.2.1.2.1 h.2.1.2.2.1 h.2.1.2.2.2.1 h.2.1.2.2.2.2 (h.2.2 0) (h.2.2 1) (h.2.2 2) (h.2.2 3) (h.2.2 4)

end Go.Proofs.YtkigjcdjiheneaaDoor
