/- Rows of one key each, built by append: how the law functions lay what they hand to xsort.Order. -/
import Derived.Test.YtkigjcdjiheneaaDoorOr4
import Derived.Maps.AppendAt
namespace Go.Proofs.YtkigjcdjiheneaaDoor
open Go.RowKit Go.Sten Go.Lib Go.Shelf

def rowV (g : Nat) : Value := .slice (some ⟨g, 0, none⟩) 1 1
/-- v is a row of rows, the j-th one in block G[j], holding the one key ks[j] -/
def Built (B : Nat) (w : World) (v : Value) (G : List Nat) (ks : List KeyD) : Prop :=
  w.ownsRow B 35 1 v ks.length (G.map rowV) ∧ G.length = ks.length ∧ ∀ j, j < ks.length → B ≤ G.getD j 0 ∧ w.heap[G.getD j 0]? = some (.cells (ks.getD j KeyD.zero).cells.toArray 41 (0, 0))

theorem Built.nil (B : Nat) (w : World) : Built B w (.slice none 0 0) [] [] := ⟨World.ownsRow_nil _ _ _ _, rfl, fun j hj => absurd hj (by simp)⟩

theorem Built.ne {B : Nat} {w : World} {u v : Value} {G H : List Nat} {ks ls : List KeyD} (h : Built B w v G ks) (k : Built B w u H ls) (j : Nat) (hj : j < ks.length) : some (G.getD j 0) ≠ u.ownBlock := by
  have h1 := (h.2.2 j hj).2
  rcases k.1.2 with ⟨e, _⟩ | ⟨g, cap, cur, e, _, hb, _⟩
  · rw [e]; simp [Value.ownBlock]
  · rw [e]
    intro e2
    simp only [Value.ownBlock, Option.some.injEq] at e2
    rw [e2, hb] at h1
    simp at h1

theorem lt_of_heap {w : World} {k : Nat} {o : Obj} (h : w.heap[k]? = some o) : k < w.heap.size := by
  rcases Nat.lt_or_ge k w.heap.size with h' | h'
  · exact h'
  · rw [Array.getElem?_eq_none h'] at h; cases h

theorem Built.kept {B : Nat} {w w' : World} {u v : Value} {G H : List Nat} {ks ls : List KeyD} (h : Built B w v G ks) (k : Built B w u H ls) (hg : w.grownBy w' u.ownBlock) (hne : v.ownBlock = none ∨ v.ownBlock ≠ u.ownBlock) : Built B w' v G ks := by
  refine ⟨h.1.kept hg hne, h.2.1, fun j hj => ⟨(h.2.2 j hj).1, ?_⟩⟩
  have h1 := (h.2.2 j hj).2
  rw [← h1]
  exact hg.block _ (lt_of_heap h1) (h.ne k j hj)
theorem Built.alloc {B : Nat} {w : World} {v : Value} {G : List Nat} {ks : List KeyD} (h : Built B w v G ks) (o : Obj) : Built B (w.alloc o) v G ks := by
  refine ⟨h.1.alloc _, h.2.1, fun j hj => ⟨(h.2.2 j hj).1, ?_⟩⟩
  rw [Below.heap_alloc _ _ _ (lt_of_heap (h.2.2 j hj).2)]
  exact (h.2.2 j hj).2

theorem Built.grow {B : Nat} {w w' : World} {v v' : Value} {G : List Nat} {ks : List KeyD} {k : KeyD} {o : Obj} (h : Built B w v G ks)
    (hown : w'.ownsRow B 35 1 v' (ks.length + 1) (G.map rowV ++ [rowV w.heap.size])) (hg : ((w.alloc (.cells k.cells.toArray 41)).alloc o).grownBy w' v.ownBlock) (hB : B ≤ w.heap.size) : Built B w' v' (G ++ [w.heap.size]) (ks ++ [k]) := by
  refine ⟨by rw [List.map_append, List.length_append]; exact hown, by simp [h.2.1], fun j hj => ?_⟩
  rw [List.length_append] at hj
  by_cases hlt : j < ks.length
  · have h1 := ((h.alloc (.cells k.cells.toArray 41)).alloc o)
    have e1 : (G ++ [w.heap.size]).getD j 0 = G.getD j 0 := by simp [List.getD, List.getElem?_append, h.2.1, hlt]
    have e2 : (ks ++ [k]).getD j KeyD.zero = ks.getD j KeyD.zero := by simp [List.getD, List.getElem?_append, hlt]
    rw [e1, e2]
    refine ⟨(h1.2.2 j hlt).1, ?_⟩
    rw [← (h1.2.2 j hlt).2]
    exact hg.block _ (lt_of_heap (h1.2.2 j hlt).2) (h1.ne h1 j hlt)
  · have e : j = ks.length := by simp at hj; omega
    have e1 : (G ++ [w.heap.size]).getD j 0 = w.heap.size := by simp [List.getD, e, ← h.2.1]
    have e2 : (ks ++ [k]).getD j KeyD.zero = k := by simp [List.getD, e]
    rw [e1, e2]
    refine ⟨hB, ?_⟩
    have hlt2 : w.heap.size < ((w.alloc (.cells k.cells.toArray 41)).alloc o).heap.size := by simp; omega
    have hne : some w.heap.size ≠ v.ownBlock := by
      rcases h.1.2 with ⟨e, _⟩ | ⟨g, cap, cur, e, _, hb, _⟩
      · rw [e]; simp [Value.ownBlock]
      · rw [e]
        have := lt_of_heap hb
        simp only [Value.ownBlock, ne_eq, Option.some.injEq]
        omega
    rw [hg.block _ hlt2 hne, Below.heap_alloc _ _ _ (by simp), heap_alloc_new]

/-- what the rows hold -/
theorem Built.rows {B : Nat} {w : World} {v : Value} {G : List Nat} {ks : List KeyD} (h : Built B w v G ks) (hn : 0 < ks.length) :
    ∃ rb c, v = .slice (some ⟨rb, 0, none⟩) ks.length c ∧ B ≤ rb ∧ RowsAt w rb (ks.map fun k => [k]) ∧ (∀ j, j < ks.length → w.cell? ⟨rb, j, none⟩ = some (rowV (G.getD j 0))) ∧
      (∀ j, j < ks.length → G.getD j 0 < w.heap.size ∧ w.cell? ⟨G.getD j 0, 2, none⟩ = some (.string (ks.getD j KeyD.zero).text)) := by
  obtain ⟨h1, h2, h3⟩ := h
  have hcell : ∀ j, j < ks.length → ∀ (t : Nat) (v : Value), (ks.getD j KeyD.zero).cells[t]? = some v → w.cell? ⟨G.getD j 0, t, none⟩ = some v := fun j hj t v hv => by
    simp only [World.cell?, (h3 j hj).2]
    simpa using hv
  rcases h1.2 with ⟨_, h0⟩ | ⟨g, cap, cur, rfl, hg, hb, hnc, hm, hcs, htk⟩
  · omega
  · have hrow : ∀ j, j < ks.length → w.cell? ⟨g, j, none⟩ = some (rowV (G.getD j 0)) := fun j hj => by
      simp only [World.cell?, hb]
      have e : (cur.toList.take (ks.length * 1))[j]? = (G.map rowV)[j]? := by rw [htk]
      rw [List.getElem?_take, if_pos (by omega)] at e
      have e2 : cur[j]? = cur.toList[j]? := by simp
      rw [e2, e]
      simp [List.getD, h2, hj]
    refine ⟨g, cap, rfl, hg, ⟨lt_of_heap hb, fun i row hi => ?_⟩, hrow, fun j hj => ⟨lt_of_heap (h3 j hj).2, hcell j hj 2 _ rfl⟩⟩
    obtain ⟨k, hk, rfl⟩ : ∃ k, ks[i]? = some k ∧ row = [k] := by
      rw [List.getElem?_map] at hi
      cases hk : ks[i]? with
      | none => rw [hk] at hi; cases hi
      | some k => rw [hk] at hi; exact ⟨k, rfl, by simpa using hi.symm⟩
    have hi2 : i < ks.length := by
      rcases Nat.lt_or_ge i ks.length with h' | h'
      · exact h'
      · rw [List.getElem?_eq_none h'] at hk; cases hk
    have hkd : ks.getD i KeyD.zero = k := by simp [List.getD, hk]
    refine ⟨some ⟨G.getD i 0, 0, none⟩, 1, hrow i hi2, Or.inr ⟨_, rfl, lt_of_heap (h3 i hi2).2, by simp, fun j k' hj' t v hv => ?_⟩⟩
    match j, hj' with
    | 0, hj' =>
      obtain rfl : k = k' := by simpa using hj'
      have := hcell i hi2 t v (by rw [hkd]; exact hv)
      simpa using this

theorem order_at (rb c n : Nat) (rs : List (List KeyD)) (w : World) (hl : rs.length = n) (h0 : 0 < n) (hm : n ≤ 1000) (hk : ∀ ks ∈ rs, ks.length ≤ 1000) (hR : RowsAt w rb rs) :
    Calls Tryd.prog 17 #[.slice (some ⟨rb, 0, none⟩) n c] w fun e w' => ∃ g cap, e = .returned (.slice (some ⟨g, 0, none⟩) n cap) ∧ w.heap.size ≤ g ∧ Below w.heap.size w w' ∧
      ∀ j, j < n → w'.cell? ⟨g, j, none⟩ = some (.int .i64 (((ordR rs n).getD j 0 : Nat) : Int)) := by
  obtain ⟨m, rfl⟩ : ∃ m, n = m + 1 := ⟨n - 1, by omega⟩
  exact (order_pos rb c m rs w hl hm hk hR).mono fun e w' ⟨g, cap, h1, h2, h3, _, h5⟩ => ⟨g, cap, h1, h2, h3, h5⟩
end Go.Proofs.YtkigjcdjiheneaaDoor
