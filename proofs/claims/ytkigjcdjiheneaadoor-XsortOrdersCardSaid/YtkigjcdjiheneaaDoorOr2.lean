/- xsort.Order, by its contract. -/
import Derived.Test.YtkigjcdjiheneaaDoorOr1
import Derived.Test.YtkigjcdjiheneaaDoorSm5
import Derived.OwnWalk
import Derived.Lib.OwnBridge
namespace Go.Proofs.YtkigjcdjiheneaaDoor
open Go.RowKit Go.Sten Go.Lib Go.Shelf Go.Sort Go.Stab

theorem RowIs.via {w W : World} {A : Option Addr} {c : Nat} {ks : List KeyD} (h : RowIs w A c ks) (hc : ∀ p : Addr, p.block < w.heap.size → W.cell? p = w.cell? p) (hs : w.heap.size ≤ W.heap.size) : RowIs W A c ks := by
  rcases h with h | ⟨b, h1, h2, h3, h4⟩
  · exact Or.inl h
  · exact Or.inr ⟨b, h1, Nat.lt_of_lt_of_le h2 hs, h3, fun j k hk t v hv => (hc _ (by exact h2)).trans (h4 j k hk t v hv)⟩

theorem lt1000 : 1000 < 1000000000000 := by decide
/-- the rows at a world -/
def RowsAt (w : World) (rb : Nat) (rs : List (List KeyD)) : Prop :=
  rb < w.heap.size ∧ ∀ (i : Nat) (ks : List KeyD), rs[i]? = some ks → ∃ A c, w.cell? ⟨rb, i, none⟩ = some (.slice A ks.length c) ∧ RowIs w A c ks

theorem sw_cell {α : Type} [Inhabited α] {enc : α → Value} {w0 W : World} {g : Nat} {dk : Array α} (h : SW enc w0 g 0 dk W) (k : Nat) (hk : k < w0.heap.size) (hne : k ≠ g) : W.heap[k]? = w0.heap[k]? := by
  obtain ⟨n, os, rfl⟩ := h
  unfold sortWorld
  rw [heap_grow_old _ _ (by rw [size_putRow]; exact hk)]
  show (w0.heap.modify g _)[k]? = _
  rw [Array.getElem?_modify, if_neg (Ne.symm hne)]
theorem sw_below {α : Type} [Inhabited α] {enc : α → Value} {w0 W : World} {g B : Nat} {dk : Array α} (h : SW enc w0 g 0 dk W) (hB : B ≤ w0.heap.size) (hg : B ≤ g) : Below B w0 W := by
  have hb : ∀ k, k < B → W.heap[k]? = w0.heap[k]? := fun k hk => sw_cell h k (by omega) (by omega)
  have hs := h.le
  obtain ⟨n, os, rfl⟩ := h
  exact ⟨rfl, rfl, rfl, hs, hb⟩

/-- a row's number, as the sort sees it -/
def cfR (rs : List (List KeyD)) (n : Nat) (x y : Fin n) : Int := rowCmp (rs.getD x.val []) (rs.getD y.val []) 0 (rs.getD 0 [])
def encF (n : Nat) (x : Fin n) : Value := .int .i64 (x.val : Int)
/-- the rows' places in their order -/
def ordF (rs : List (List KeyD)) (n : Nat) (h : 0 < n) : Array (Fin n) :=
  let _ : Inhabited (Fin n) := ⟨⟨0, h⟩⟩
  stable (ltOf (cfR rs n)) n (List.finRange n).toArray
def ordR (rs : List (List KeyD)) (n : Nat) : List Nat := if h : 0 < n then (ordF rs n h).toList.map (fun x => x.val) else []

theorem ints_fin (n : Nat) : (List.range n).map (fun (k : Nat) => Value.int .i64 (k : Int)) = (List.finRange n).map (encF n) := by
  apply List.ext_getElem
  · simp
  · intro i h1 h2
    simp [encF]

section
variable {α : Type} [Inhabited α] (l : α → α → Bool)
theorem insBlocks_size (n : Nat) : ∀ (k a b : Nat) (d : Array α), n + 1 - b ≤ k → (insBlocks l n a b d).size = d.size := fun k => by
  induction k with
  | zero => intro a b d h; rw [insBlocks_stop l n a b d (by omega), insertionSort_size]
  | succ k ih =>
    intro a b d h
    by_cases hb : b ≤ n
    · rw [insBlocks_go l n a b d hb, ih _ _ _ (by omega), insertionSort_size]
    · rw [insBlocks_stop l n a b d hb, insertionSort_size]
theorem mergePass_size (bs n : Nat) (h0 : 0 < bs) : ∀ (k a b : Nat) (d : Array α), n + 1 - b ≤ k → (mergePass l bs n a b d).size = d.size := fun k => by
  have stop : ∀ (a b : Nat) (d : Array α), ¬ b ≤ n → (mergePass l bs n a b d).size = d.size := fun a b d hb => by
    by_cases h1 : a + bs < n
    · rw [mergePass_last l bs n a b d hb h1, symMerge_size]
    · rw [mergePass_none l bs n a b d hb h1]
  induction k with
  | zero => intro a b d h; exact stop a b d (by omega)
  | succ k ih =>
    intro a b d h
    by_cases hb : b ≤ n
    · rw [mergePass_go l bs n a b d hb h0, ih _ _ _ (by omega), symMerge_size]
    · exact stop a b d hb
theorem mergeAll_size (n : Nat) : ∀ (k bs : Nat) (d : Array α), 0 < bs → n - bs ≤ k → (mergeAll l bs n d).size = d.size := fun k => by
  induction k with
  | zero => intro bs d h0 h; rw [mergeAll_stop l bs n d (by omega)]
  | succ k ih =>
    intro bs d h0 h
    by_cases hb : bs < n
    · rw [mergeAll_go l bs n d hb h0, ih _ _ (by omega) (by omega), mergePass_size l bs n h0 _ _ _ _ (Nat.le_refl _)]
    · rw [mergeAll_stop l bs n d hb]
theorem stable_size (n : Nat) (d : Array α) : (stable l n d).size = d.size := by
  unfold stable
  rw [mergeAll_size l n _ _ _ (by omega) (Nat.le_refl _), insBlocks_size l n _ _ _ _ (Nat.le_refl _)]
end

set_option maxHeartbeats 1600000 in
theorem order_pos (rb c m : Nat) (rs : List (List KeyD)) (w : World) (hl : rs.length = m + 1) (hm : m + 1 ≤ 1000) (hk : ∀ ks ∈ rs, ks.length ≤ 1000) (hR : RowsAt w rb rs) :
    Calls Tryd.prog 17 #[.slice (some ⟨rb, 0, none⟩) (m + 1) c] w fun e w' => ∃ g cap, e = .returned (.slice (some ⟨g, 0, none⟩) (m + 1) cap) ∧ w.heap.size ≤ g ∧ Below w.heap.size w w' ∧
      (ordR rs (m + 1)).length = m + 1 ∧ ∀ j, j < m + 1 → w'.cell? ⟨g, j, none⟩ = some (.int .i64 (((ordR rs (m + 1)).getD j 0 : Nat) : Int)) := by
  obtain ⟨i0, hi, hz0, hz1, hz2⟩ := info_parts (show (Tryd.prog.info? 3).map (fun i => (i.zero, i.size, i.bytes)) = some (some (.int .i64 0), 1, 8) by kernel_rfl)
  obtain ⟨n, hn⟩ : ∃ n, n = m + 1 := ⟨_, rfl⟩
  have hu : Tryd.prog.underlying 30 = some (.slice 3) := by kernel_rfl
  have HR : Aside (RowsAt w rb rs) := hR
  have HN : Hid (n = m + 1) := hn
  have hnm : n ≤ 1000 := by omega
  have hnp : 0 < n := by omega
  rw [← hn]
  clear hR hn
  go_enter Tryd.func17, Tryd.ntmps17
  go_wp2_with fail
  have hZ : w.heap.size + 1 ≤ (w.alloc (Obj.cells #[Value.slice (some { block := rb, off := 0 }) n c] 25)).heap.size := by simp
  have hB0 : (w.alloc (Obj.cells #[Value.slice (some { block := rb, off := 0 }) n c] 25)).cell? ⟨w.heap.size, 0, none⟩ = some (Value.slice (some { block := rb, off := 0 }) n c) := by simp
  have hF0 : Below w.heap.size w (w.alloc (Obj.cells #[Value.slice (some { block := rb, off := 0 }) n c] 25)) := ((Gw.refl w).alloc _).below
  obtain ⟨wb, hwb⟩ : ∃ wb, wb = w.alloc (Obj.cells #[Value.slice (some { block := rb, off := 0 }) n c] 25) := ⟨_, rfl⟩
  obtain ⟨B, hB⟩ : ∃ B, B = w.heap.size := ⟨_, rfl⟩
  rw [← hwb] at hZ hB0 hF0 ⊢
  rw [← hB] at hZ hB0 hF0 ⊢
  have HB0 : Aside _ := hB0
  have HF0 : Aside _ := hF0
  have HBw : Hid (B = w.heap.size) := hB
  clear hwb hB hB0 hF0
  go_loopg [7, 3] n (fun kx s7 s3 wr => ∃ (i : Nat) (v : Value), s7 = .int .i64 i ∧ v = s3 ∧ i ≤ n ∧ n - i ≤ kx ∧ Aside (wr.ownsRow (B + 1) 3 1 v i ((List.range i).map (fun (k : Nat) => Value.int .i64 (k : Int)))) ∧ Aside (Below (B + 1) wb wr))
  case atStart => exact ⟨0, _, rfl, rfl, by omega, by omega, World.ownsRow_nil _ _ _ _, Below.refl _ _⟩
  case round =>
    obtain ⟨i, s3, rfl, rfl, hin, hkx, hown, hbel⟩ := hrel
    by_cases hlt : i < n
    · have hltz : (i : Int) < (n : Int) := by omega
      have hsz := hbel.out.size
      go_wp2_with (first
        | (at_builtin; refine wpList_append_own _ rfl _ _ 30 rfl (B + 1) 3 i0 (.int .i64 0) 1 8 hu hi hz0 hz1 hz2 rfl (by decide) _ _ _ rfl (hown.out.alloc _) ⟨wr.heap.size, 0, none⟩ 1 1 [.int .i64 i] rfl rfl ?c1 ?c2 ?c3 ?c4 ?c5 ?_))
      case c1 =>
        intro j u hj
        match j, hj with
        | 0, hj => simp at hj; subst hj; simp [Addr.add]
      case c2 => intro u hu; simp at hu; subst hu; rfl
      case c3 => unfold maxLen; omega
      case c4 => omega
      case c5 => simp; omega
      intro v' w1 hown' hgrow _
      have O1 : Aside (w1.ownsRow (B + 1) 3 1 v' (i + 1) ((List.range (i + 1)).map (fun (k : Nat) => Value.int .i64 (k : Int)))) := by
        rw [List.range_succ, List.map_append]; exact hown'
      have B1 : Aside (Below (B + 1) wb w1) := by
        refine (hbel.out.alloc (by omega) _).grown hgrow (by simp; omega) ?_
        intro k hk
        rcases hown.out.2 with ⟨e, _⟩ | ⟨g, cap, cur, e, hg, _⟩
        · rw [e] at hk; simp [Value.ownBlock] at hk
        · rw [e] at hk; simp [Value.ownBlock] at hk; omega
      clear hown' hgrow hown hbel
      go_wp2_with fail
      go_roundg (n - (i + 1))
      case measure => omega
      case rel => exact ⟨i + 1, _, by go_num, rfl, by omega, by omega, O1, B1⟩
    · have hltz : ¬ (i : Int) < (n : Int) := by omega
      have e : i = n := by omega
      have HE : Hid (i = n) := e
      clear e
      have O1 := hown.out
      rw [HE.out, ints_fin] at O1
      let _ : Inhabited (Fin n) := ⟨⟨0, hnp⟩⟩
      have hne : s3 ≠ Value.slice none 0 0 := by
        intro e0
        rw [e0] at O1
        rcases O1.2 with ⟨_, h0⟩ | ⟨g, cap, cur, h, _⟩
        · omega
        · simp at h
      obtain ⟨g, cap, rfl, hg1, hg2, hg3, hg4, hg5, hH⟩ := holds_of_ownsRow O1 hne
      have hbw : Below w.heap.size w wr := by
        have h := HF0.out
        rw [← HBw.out]
        exact h.trans (hbel.out.mono (by omega))
      have hsz : ((List.finRange n).toArray).size = n := by simp
      have R : Row1 (encF n) wr g 0 (List.finRange n).toArray := ⟨fun x => rfl, hH, hg2⟩
      have hbox : wr.cell? ⟨B, 0, none⟩ = some (Value.slice (some { block := rb, off := 0 }) n c) := (hbel.out.cell (by simp)).trans HB0.out
      have hcmp : CmpLays1 Tryd.prog 26 #[.pointer (some ⟨B, 0, none⟩)] (encF n) (cfR rs n) g 0 ((List.finRange n).toArray).size wr := by
        intro q os dk hdk x y
        have hSW : SW (encF n) wr g 0 dk (sortWorld (encF n) wr g 0 q dk os) := ⟨q, os, rfl⟩
        have hfar : ∀ p : Addr, p.block < B + 1 → (sortWorld (encF n) wr g 0 q dk os).cell? p = wr.cell? p := fun p hp => World.cell?_of_block (sw_cell hSW p.block (by have := hbel.out.size; omega) (by omega))
        have hcell : ∀ p : Addr, p.block < w.heap.size → (sortWorld (encF n) wr g 0 q dk os).cell? p = w.cell? p := fun p hp => (hfar p (by rw [HBw.out]; omega)).trans (hbw.cell hp)
        have hle := Nat.le_trans hbw.size hSW.le
        obtain ⟨hrb, hrr⟩ := HR.out
        have hln : rs.length = n := hl.trans HN.out.symm
        have get : ∀ i : Fin n, ∃ A c', (sortWorld (encF n) wr g 0 q dk os).cell? ⟨rb, i.val, none⟩ = some (.slice A (rs.getD i.val []).length c') ∧ RowIs (sortWorld (encF n) wr g 0 q dk os) A c' (rs.getD i.val []) := fun i => by
          obtain ⟨A, c', h1, h2⟩ := hrr i.val (rs.getD i.val []) (by simp [List.getD, hln])
          exact ⟨A, c', (hcell _ (by exact hrb)).trans h1, h2.via hcell hle⟩
        have len : ∀ i : Fin n, (rs.getD i.val []).length ≤ 1000 := fun i => hk _ (by simp [List.getD, hln])
        obtain ⟨A0, c0, k1, k2⟩ := get ⟨0, hnp⟩
        obtain ⟨AX, cX, x1, x2⟩ := get x
        obtain ⟨AY, cY, y1, y2⟩ := get y
        refine (order1_any B rb c n x.val y.val (rs.getD 0 []) (rs.getD x.val []) (rs.getD y.val []) A0 AX AY c0 cX cY _ ((hfar _ (by simp)).trans hbox) (by have := hSW.le; have := hbel.out.size; omega) (by omega) hnm hnp x.isLt y.isLt k1 x1 y1 k2 x2 y2 (len ⟨0, hnp⟩) (len x) (len y)).mono ?_
        rintro e w' ⟨rfl, gq, go, rfl⟩
        exact ⟨rfl, gq, go, rfl⟩
      have hso := sortStable_any (encF n) (cfR rs n) 26 #[.pointer (some ⟨B, 0, none⟩)] g 0 cap (List.finRange n).toArray wr (fun args W => by simp [callFunc, Tryd.func26, Tryd.f26]) hcmp R (Nat.lt_of_le_of_lt (Nat.le_of_eq hsz) (Nat.lt_of_le_of_lt hnm lt1000))
      rw [hsz] at hso
      have HSO := hid hso
      clear hso hcmp
      go_wp2_with fail
      refine HSO.out.mono ?_
      rintro e w2 ⟨rfl, hS2⟩
      go_wp2_with fail
      go_ret
      have hS3 : SW (encF n) wr g 0 (ordF rs n hnp) w2 := hS2
      have hsz2 : (ordF rs n hnp).size = n := (stable_size _ _ _).trans hsz
      have hlen : (ordR rs n).length = n := by unfold ordR; rw [dif_pos hnp]; simp [hsz2]
      refine ⟨g, cap, rfl, ?_, ?_, hlen, ?_⟩
      · have := HBw.out; omega
      · have := HBw.out
        exact hbw.trans (sw_below hS3 hbw.size (by omega))
      · intro j hj
        have h := hS3.c1 R (by rw [hsz, hsz2]) j (by omega)
        rw [Nat.zero_add] at h
        rw [h]
        have e : (ordR rs n).getD j 0 = ((ordF rs n hnp)[j]!).val := by
          unfold ordR
          rw [dif_pos hnp]
          have hj2 : j < (ordF rs n hnp).size := by omega
          rw [getElem!_pos _ j hj2]
          simp [List.getD, hj2]
        rw [e]
        rfl
end Go.Proofs.YtkigjcdjiheneaaDoor
