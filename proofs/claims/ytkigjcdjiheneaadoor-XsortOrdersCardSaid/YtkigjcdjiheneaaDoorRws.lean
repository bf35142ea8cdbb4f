/- stencillaw13.rows, by its contract. -/
import Derived.Test.YtkigjcdjiheneaaDoorRB
import Derived.Deep.AppendLies
namespace Go.Proofs.YtkigjcdjiheneaaDoor
open Go.RowKit Go.Sten Go.Lib Go.Shelf

/-- a row that came in -/
def InRow (w : World) (A : Option Addr) (ks : List KeyD) : Prop :=
  ks = [] ∨ ∃ b off, A = some ⟨b, off, none⟩ ∧ b < w.heap.size ∧ ∀ (j : Nat) (k : KeyD), ks[j]? = some k → ∀ (t : Nat) (v : Value), k.cells[t]? = some v → w.cell? ⟨b, off + j * 5 + t, none⟩ = some v
/-- the rows that came in -/
def InRows (w : World) (b off : Nat) (L : List (List KeyD)) : Prop :=
  b < w.heap.size ∧ ∀ (i : Nat) (ks : List KeyD), L[i]? = some ks → ∃ A c, w.cell? ⟨b, off + i, none⟩ = some (.slice A ks.length c) ∧ InRow w A ks
/-- a key is right -/
def KeyD.ok (k : KeyD) : Prop := rightN k.kind k.v = true

/-- what rows hands back: both lists of rows, or that a number is not right -/
def RowsOut (B : Nat) (L : List (List KeyD)) (e : Ending) (w' : World) : Prop :=
  e = .returned (.tuple #[.slice none 0 0, .slice none 0 0, .bool false]) ∨
  ∃ va vb xs ys, e = .returned (.tuple #[va, vb, .bool true]) ∧ RB B w' 35 41 va xs L ∧ RB B w' 53 55 vb ys L ∧ ∀ ks ∈ L, ∀ k ∈ ks, k.ok

set_option maxHeartbeats 8000000 in
set_option maxRecDepth 100000 in
theorem rows_pos (b off len cap m : Nat) (L : List (List KeyD)) (w : World) (hlen : L.length = len) (hm : m ≤ len) (hm2 : m ≤ 40) (hm3 : m = len ∨ m = 40) (hI : InRows w b off L) (hbig : ∀ ks ∈ L, (ks.length : Int) ≤ 9223372036854775807) :
    Calls Tryd.prog 15 #[.slice (some ⟨b, off, none⟩) len cap] w fun e w' => Below w.heap.size w w' ∧ RowsOut w.heap.size ((L.take m).map (List.take 6)) e w' := by
  obtain ⟨i35, hi, hz0, hz1, hz2⟩ := info_parts (show (Tryd.prog.info? 35).map (fun i => (i.zero, i.size, i.bytes)) = some (some (.slice none 0 0), 1, 24) by kernel_rfl)
  obtain ⟨i53, hj, hy0, hy1, hy2⟩ := info_parts (show (Tryd.prog.info? 53).map (fun i => (i.zero, i.size, i.bytes)) = some (some (.slice none 0 0), 1, 24) by kernel_rfl)
  obtain ⟨i41, hk, hx0, hx1, hx2⟩ := info_parts (show (Tryd.prog.info? 41).map (fun i => (i.zero, i.size, i.bytes)) = some (some KeyD.zero.val, 5, 40) by kernel_rfl)
  obtain ⟨i55, hl, hw0, hw1, hw2⟩ := info_parts (show (Tryd.prog.info? 55).map (fun i => (i.zero, i.size, i.bytes)) = some (some KeyD.zero.val, 5, 40) by kernel_rfl)
  have hu25 : Tryd.prog.underlying 25 = some (.slice 35) := by kernel_rfl
  have hu26 : Tryd.prog.underlying 26 = some (.slice 53) := by kernel_rfl
  have hu35 : Tryd.prog.underlying 35 = some (.slice 41) := by kernel_rfl
  have hu53 : Tryd.prog.underlying 53 = some (.slice 55) := by kernel_rfl
  obtain ⟨B, hB⟩ : ∃ B, B = w.heap.size := ⟨_, rfl⟩
  have HB : Hid (B = w.heap.size) := hB
  have HI : Aside (InRows w b off L) := hI
  have HBIG : Aside (∀ ks ∈ L, (ks.length : Int) ≤ 9223372036854775807) := hbig
  have HL : Hid (L.length = len) := hlen
  rw [← hB]
  clear hB hI hbig hlen
  go_enter Tryd.func15, Tryd.ntmps15
  go_wp2_with fail
  go_loopg [7, 5, 6] m (fun kx s7 s5 s6 wr => ∃ (i : Nat) (va vb : Value) (xs ys : List Value), s7 = .int .i64 i ∧ va = s5 ∧ vb = s6 ∧ i ≤ m ∧ m - i ≤ kx ∧ Aside (RB B wr 35 41 va xs ((L.take i).map (List.take 6))) ∧ Aside (RB B wr 53 55 vb ys ((L.take i).map (List.take 6))) ∧
    Aside (∀ ks ∈ (L.take i).map (List.take 6), ∀ k ∈ ks, k.ok) ∧ Aside (Below B w wr))
  case atStart => exact ⟨0, _, _, [], [], rfl, rfl, rfl, by omega, by omega, RB.nil _ _ _ _, RB.nil _ _ _ _, by intro ks h; simp at h, Below.refl _ _⟩
  case round =>
    obtain ⟨i, va, vb, xs, ys, rfl, rfl, rfl, him, hkx, hRa, hRb, hok, hbel⟩ := hrel
    obtain ⟨w1, rfl⟩ : ∃ w1, w1 = wr := ⟨_, rfl⟩
    by_cases hlt : i < m
    · have h1 : (i : Int) < (len : Int) := by omega
      have h2 : (i : Int) < 40 := by omega
      have h1' : decide ((i : Int) < (len : Int)) = true := by simpa using h1
      have h2' : decide ((i : Int) < 40) = true := by simpa using h2
      obtain ⟨ks, hks⟩ : ∃ ks, L[i]? = some ks := ⟨L[i]'(by have := HL.out; omega), List.getElem?_eq_getElem _⟩
      have HKS : Hid (L[i]? = some ks) := hks
      obtain ⟨A, c, hA, hrow⟩ := HI.out.2 i ks hks
      have hnk := HBIG.out ks (List.mem_of_getElem? hks)
      obtain ⟨nk, hnke⟩ : ∃ nk, nk = ks.length := ⟨_, rfl⟩
      rw [← hnke] at hA hnk
      have HNK : Hid (nk = ks.length) := hnke
      obtain ⟨B1, hB1⟩ : ∃ B1, B1 = w1.heap.size := ⟨_, rfl⟩
      have hBB : B ≤ B1 := by have := hbel.out.size; have := HB.out; omega
      have HB1 : Hid (B1 = w1.heap.size) := hB1
      have hbb : b < B := by rw [HB.out]; exact HI.out.1
      have HROW : Aside (InRow w A ks) := hrow
      have hAr : w1.cell? ⟨b, off + i, none⟩ = some (.slice A nk c) := (hbel.out.cell (by exact hbb)).trans hA
      have HA : Aside (w.cell? ⟨b, off + i, none⟩ = some (.slice A nk c)) := hA
      obtain ⟨kn, hkn⟩ : ∃ kn, kn = min nk 6 := ⟨_, rfl⟩
      clear hks hnke hB1 hA hrow
      go_wp2_with fail
      go_loopg [10, 8, 9] kn (fun kx s10 s8 s9 wq => ∃ (k : Nat) (x y : Value), s10 = .int .i64 k ∧ x = s8 ∧ y = s9 ∧ k ≤ kn ∧ kn - k ≤ kx ∧ Aside (wq.ownsRow B1 41 5 x k (flat (ks.take k))) ∧ Aside (wq.ownsRow B1 55 5 y k (flat (ks.take k))) ∧
        Aside (∀ q ∈ ks.take k, q.ok) ∧ Aside (Below B1 w1 wq))
      case atStart => exact ⟨0, _, _, rfl, rfl, rfl, by omega, by omega, World.ownsRow_nil _ _ _ _, World.ownsRow_nil _ _ _ _, by intro q h; simp at h, Below.refl _ _⟩
      case round =>
        obtain ⟨k, x, y, rfl, rfl, rfl, hkk, hkx2, hox, hoy, hokk, hbe⟩ := hrel
        have hbB1 : b < B1 := by omega
        have gA : wr.cell? ⟨b, off + i, none⟩ = some (.slice A nk c) := (hbe.out.cell (by exact hbB1)).trans hAr
        have hs1 : B1 ≤ wr.heap.size := by have := hbe.out.size; have := HB1.out; omega
        by_cases hlk : k < kn
        · have k1 : (k : Int) < (nk : Int) := by omega
          have k2 : (k : Int) < 6 := by omega
          have k1' : decide ((k : Int) < (nk : Int)) = true := by simpa using k1
          have k2' : decide ((k : Int) < 6) = true := by simpa using k2
          have k0 : (0 : Int) ≤ (k : Int) := by omega
          have i0 : (0 : Int) ≤ (i : Int) := by omega
          have tk : ((k : Int)).toNat = k := by omega
          have ti : ((i : Int)).toNat = i := by omega
          obtain ⟨q, hq⟩ : ∃ q, ks[k]? = some q := ⟨ks[k]'(by have := HNK.out; omega), List.getElem?_eq_getElem _⟩
          obtain ⟨b2, off2, rfl, hb2, hcc⟩ : ∃ b off, A = some ⟨b, off, none⟩ ∧ b < w.heap.size ∧ ∀ (j : Nat) (k : KeyD), ks[j]? = some k → ∀ (t : Nat) (v : Value), k.cells[t]? = some v → w.cell? ⟨b, off + j * 5 + t, none⟩ = some v := by
            rcases HROW.out with h | h
            · rw [h] at hq; simp at hq
            · exact h
          have hb2B : b2 < B := by rw [HB.out]; exact hb2
          have old : ∀ p : Addr, p.block < B → wr.cell? p = w.cell? p := fun p hp => (hbe.out.cell (by omega)).trans (hbel.out.cell hp)
          have f0 : wr.cell? ⟨b2, off2 + k * 5, none⟩ = some (.bool q.number) := (old _ hb2B).trans (hcc k q hq 0 _ rfl)
          have f1 : wr.cell? ⟨b2, off2 + k * 5 + 1, none⟩ = some (.bool q.down) := (old _ hb2B).trans (hcc k q hq 1 _ rfl)
          have f2 : wr.cell? ⟨b2, off2 + k * 5 + 2, none⟩ = some (.string q.text) := (old _ hb2B).trans (hcc k q hq 2 _ rfl)
          have f3 : wr.cell? ⟨b2, off2 + k * 5 + 3, none⟩ = some (.int .i64 q.kind) := (old _ hb2B).trans (hcc k q hq 3 _ rfl)
          have f4 : wr.cell? ⟨b2, off2 + k * 5 + 4, none⟩ = some (.int .i64 q.v) := (old _ hb2B).trans (hcc k q hq 4 _ rfl)
          have HQ : Hid (ks[k]? = some q) := hq
          clear old hcc hq
          go_wp2_with fail
          have RC := right_any q.kind q.v wr
          obtain ⟨rr, hrr⟩ : ∃ rr, rr = rightN q.kind q.v := ⟨_, rfl⟩
          rw [← hrr] at RC
          have HRR : Hid (rr = rightN q.kind q.v) := hrr
          clear hrr
          refine RC.mono ?_
          rintro _ wg ⟨rfl, hg⟩
          have hgb := hg.below
          have HG : Aside (Below wr.heap.size wr wg) := hgb
          have hgs : wr.heap.size ≤ wg.heap.size := hg.size
          cases rr with
          | false =>
            clear RC
            go_wp2_with fail
            go_returns
            refine ⟨?_, Or.inl rfl⟩
            exact hbel.out.trans ((hbe.out.mono hBB).trans (HG.out.mono (by omega)))
          | true =>
            have gA' : wg.cell? ⟨b, off + i, none⟩ = some (.slice (some ⟨b2, off2, none⟩) nk c) := (HG.out.cell (by show b < _; omega)).trans gA
            have f0' : wg.cell? ⟨b2, off2 + k * 5, none⟩ = some (.bool q.number) := (HG.out.cell (by show b2 < _; omega)).trans f0
            have f1' : wg.cell? ⟨b2, off2 + k * 5 + 1, none⟩ = some (.bool q.down) := (HG.out.cell (by show b2 < _; omega)).trans f1
            have f2' : wg.cell? ⟨b2, off2 + k * 5 + 2, none⟩ = some (.string q.text) := (HG.out.cell (by show b2 < _; omega)).trans f2
            have f3' : wg.cell? ⟨b2, off2 + k * 5 + 3, none⟩ = some (.int .i64 q.kind) := (HG.out.cell (by show b2 < _; omega)).trans f3
            have f4' : wg.cell? ⟨b2, off2 + k * 5 + 4, none⟩ = some (.int .i64 q.v) := (HG.out.cell (by show b2 < _; omega)).trans f4
            have ox : wg.ownsRow B1 41 5 x k (flat (ks.take k)) := own_below hox.out hgb
            have oy : wg.ownsRow B1 55 5 y k (flat (ks.take k)) := own_below hoy.out hgb
            have OY : Aside (wg.ownsRow B1 55 5 y k (flat (ks.take k))) := oy
            have BG : Aside (Below B1 w1 wg) := hbe.out.trans (HG.out.mono hs1)
            have hs2 : B1 ≤ wg.heap.size := by omega
            clear gA f0 f1 f2 f3 f4 hox hoy hbe RC hg hgb HG
            go_wp2_with (first
              | (at_builtin; refine wpList_append_own_at _ rfl _ _ 35 rfl B1 41 i41 KeyD.zero.val 5 40 hu35 hk hx0 hx1 hx2 rfl (by decide) _ _ _ rfl (ox.alloc _) ⟨wg.heap.size, 0, none⟩ 1 1 q.cells rfl rfl ?c1 ?c2 ?c3 ?c4 ?c5 ?_))
            case c1 =>
              intro j u hj
              match j, hj with
              | 0, hj => simp [KeyD.cells] at hj; subst hj; simp [Addr.add]
              | 1, hj => simp [KeyD.cells] at hj; subst hj; simp [Addr.add]
              | 2, hj => simp [KeyD.cells] at hj; subst hj; simp [Addr.add]
              | 3, hj => simp [KeyD.cells] at hj; subst hj; simp [Addr.add]
              | 4, hj => simp [KeyD.cells] at hj; subst hj; simp [Addr.add]
            case c2 =>
              intro u hu
              simp [KeyD.cells] at hu
              rcases hu with rfl | rfl | rfl | rfl | rfl <;> rfl
            case c3 => unfold maxLen; omega
            case c4 => omega
            case c5 => simp; omega
            intro x' wa hown' hgrow _ hat
            have htk : Hid (ks.take (k + 1) = ks.take k ++ [q]) := by
              show _ = _
              rw [List.take_add_one, HQ.out]; rfl
            have X1 : Aside (wa.ownsRow B1 41 5 x' (k + 1) (flat (ks.take (k + 1)))) := by rw [htk.out, flat_snoc]; exact hown'
            have oya : wa.ownsRow B1 55 5 y k (flat (ks.take k)) := (OY.out.alloc _).kept hgrow (own_ne OY.out ox (by decide))
            have BA : Aside (Below B1 w1 wa) := by
              refine (BG.out.alloc hs2 _).grown hgrow (by simp; omega) ?_
              intro g hg
              rcases own_block ox with e | ⟨g', cur, e, hb', _⟩
              · rw [e] at hg; cases hg
              · rw [e] at hg
                obtain rfl : g' = g := by simpa using hg
                exact hb'
            have hs3 : B1 ≤ wa.heap.size := by have := BA.out.size; have := HB1.out; omega
            have e5 : wa.cell? ⟨b, off + i, none⟩ = some (.slice (some ⟨b2, off2, none⟩) nk c) := (BA.out.cell (by show b < _; omega)).trans ((BG.out.cell (by show b < _; omega)).symm.trans gA')
            have e0 : wa.cell? ⟨b2, off2 + k * 5, none⟩ = some (.bool q.number) := (BA.out.cell (by show b2 < _; omega)).trans ((BG.out.cell (by show b2 < _; omega)).symm.trans f0')
            have e1 : wa.cell? ⟨b2, off2 + k * 5 + 1, none⟩ = some (.bool q.down) := (BA.out.cell (by show b2 < _; omega)).trans ((BG.out.cell (by show b2 < _; omega)).symm.trans f1')
            have e2 : wa.cell? ⟨b2, off2 + k * 5 + 2, none⟩ = some (.string q.text) := (BA.out.cell (by show b2 < _; omega)).trans ((BG.out.cell (by show b2 < _; omega)).symm.trans f2')
            have e3 : wa.cell? ⟨b2, off2 + k * 5 + 3, none⟩ = some (.int .i64 q.kind) := (BA.out.cell (by show b2 < _; omega)).trans ((BG.out.cell (by show b2 < _; omega)).symm.trans f3')
            have e4 : wa.cell? ⟨b2, off2 + k * 5 + 4, none⟩ = some (.int .i64 q.v) := (BA.out.cell (by show b2 < _; omega)).trans ((BG.out.cell (by show b2 < _; omega)).symm.trans f4')
            have far : ∀ z, z < B1 → y.ownBlock ≠ some z := fun z hz h => by
              rcases own_block oya with e | ⟨g', cur, e, hb', _⟩
              · rw [e] at h; cases h
              · rw [e] at h
                obtain rfl : g' = z := by simpa using h
                omega
            have nb : y.ownBlock ≠ some b := far b hbB1
            have nb2 : y.ownBlock ≠ some b2 := far b2 (by omega)
            have lb : b < wa.heap.size := by omega
            have lb2 : b2 < wa.heap.size := by omega
            clear far
            have hkB : (k + 1) * 40 ≤ 140737488355328 := by omega
            have hkM : k + 1 ≤ maxLen := by unfold maxLen; omega
            clear gA' f0' f1' f2' f3' f4' ox oy OY BG hown' hgrow hat
            go_wp2_with fail
            go_region_held3 (fun w' => w'.cell? ⟨b, off + i, none⟩ = some (.slice (some ⟨b2, off2, none⟩) nk c) ∧ w'.cell? ⟨b2, off2 + k * 5, none⟩ = some (.bool q.number) ∧ w'.cell? ⟨b2, off2 + k * 5 + 1, none⟩ = some (.bool q.down) ∧
                w'.cell? ⟨b2, off2 + k * 5 + 2, none⟩ = some (.string q.text) ∧ w'.cell? ⟨b2, off2 + k * 5 + 3, none⟩ = some (.int .i64 q.kind) ∧ w'.cell? ⟨b2, off2 + k * 5 + 4, none⟩ = some (.int .i64 q.v))
              (first
                | go_keep
                | (go_split_ands
                   refine ⟨?_, ?_, ?_, ?_, ?_, ?_⟩
                   · (rw [hgrow.cell_far _ (by simp; omega) (Ne.symm nb)]; assumption)
                   · (rw [hgrow.cell_far _ (by simp; omega) (Ne.symm nb2)]; assumption)
                   · (rw [hgrow.cell_far _ (by simp; omega) (Ne.symm nb2)]; assumption)
                   · (rw [hgrow.cell_far _ (by simp; omega) (Ne.symm nb2)]; assumption)
                   · (rw [hgrow.cell_far _ (by simp; omega) (Ne.symm nb2)]; assumption)
                   · (rw [hgrow.cell_far _ (by simp; omega) (Ne.symm nb2)]; assumption)))
              ((refine step_append_lies _ (by rfl) _ _ _ (by rfl) B1 55 i55 _ 5 40 hu53 hl hw0 hw1 hw2 rfl (by decide) y k (flat (ks.take k)) (by rfl) ((oya.alloc _).drew) ⟨wa.heap.size, 0, none⟩ 1 1 q.cells (by rfl) (by rfl) (World.news_of_block (cs := #[.bool q.number, .bool q.down, .string q.text, .int .i64 q.kind, .int .i64 q.v]) (t := 55) (fr := (0, 0)) (heap_alloc_new wa _)) (by simp [KeyD.cells, Value.oneCell']) (by decide) hkM hkB (by simp; omega) (wa.heap.size + 1) (by simp) ?_; intro gg cap wb hown1 hgrow hat hlt))
            have Y1 : Aside (wb.ownsRow B1 55 5 (.slice (some ⟨gg, 0, none⟩) (k + 1) cap) (k + 1) (flat (ks.take (k + 1)))) := by rw [htk.out, flat_snoc]; exact hown1
            have X2 : Aside (wb.ownsRow B1 41 5 x' (k + 1) (flat (ks.take (k + 1)))) := ((X1.out.alloc _).drew).kept hgrow (own_ne X1.out oya (by decide))
            have B2 : Aside (Below B1 w1 wb) := by
              refine ((BA.out.alloc hs3 _).drew).grown hgrow (by simp; omega) ?_
              intro g hg
              rcases own_block oya with e | ⟨g', cur, e, hb', _⟩
              · rw [e] at hg; cases hg
              · rw [e] at hg
                obtain rfl : g' = g := by simpa using hg
                exact hb'
            have O2 : Aside (∀ q' ∈ ks.take (k + 1), q'.ok) := by
              rw [htk.out]
              intro q' hq'
              rcases List.mem_append.1 hq' with h | h
              · exact hokk.out q' h
              · obtain rfl : q' = q := by simpa using h
                exact HRR.out.symm
            clear hown1 hgrow hat hlt oya X1 BA htk e0 e1 e2 e3 e4 e5 hokk
            go_wp2_with fail
            go_roundg (kn - (k + 1))
            case measure => omega
            case rel => exact ⟨k + 1, _, _, by go_num, rfl, rfl, by omega, by omega, X2, Y1, O2, B2⟩
        · have hkk2 : k = kn := by omega
          have HKK : Hid (k = kn) := hkk2
          have hcs : ((k : Int) < (nk : Int) ∧ ¬ (k : Int) < 6) ∨ ¬ (k : Int) < (nk : Int) := by omega
          have htk6 : ks.take k = ks.take 6 := by
            rw [HKK.out, hkn, HNK.out]
            by_cases h6 : ks.length ≤ 6
            · rw [Nat.min_eq_left h6, List.take_of_length_le (Nat.le_refl _), List.take_of_length_le h6]
            · rw [Nat.min_eq_right (by omega)]
          have hk6 : (ks.take 6).length = k := by have h1 := HNK.out; have h2 := HKK.out; rw [← htk6, List.length_take]; omega
          have ox : wr.ownsRow B 41 5 x (ks.take 6).length (flat (ks.take 6)) := by rw [hk6, ← htk6]; exact own_mono hox.out hBB
          have oy : wr.ownsRow B 55 5 y (ks.take 6).length (flat (ks.take 6)) := by rw [hk6, ← htk6]; exact own_mono hoy.out hBB
          have O6 : Aside (∀ q ∈ ks.take 6, q.ok) := by rw [← htk6]; exact hokk.out
          have hbe' : Below w1.heap.size w1 wr := by rw [← HB1.out]; exact hbe.out
          have RA : RB B wr 35 41 va xs ((L.take i).map (List.take 6)) := hRa.out.below hbe'
          have RBb : RB B wr 53 55 vb ys ((L.take i).map (List.take 6)) := hRb.out.below hbe'
          have hli : ((L.take i).map (List.take 6)).length = i := by simp; have := HL.out; omega
          have hLs : Hid ((L.take (i + 1)).map (List.take 6) = (L.take i).map (List.take 6) ++ [ks.take 6]) := by
            show _ = _
            rw [List.take_add_one, HKS.out]; simp
          have BW : Aside (Below B w wr) := hbel.out.trans (hbe.out.mono hBB)
          have hsB : B ≤ wr.heap.size := by omega
          have OK1 : Aside (∀ ks' ∈ (L.take (i + 1)).map (List.take 6), ∀ k ∈ ks', k.ok) := by
            rw [hLs.out]
            intro ks' h
            rcases List.mem_append.1 h with h | h
            · exact hok.out ks' h
            · obtain rfl : ks' = ks.take 6 := by simpa using h
              exact O6.out
          obtain ⟨Ax, nx, cx, rfl⟩ : ∃ A n c, x = .slice A n c := by
            rcases ox.2 with ⟨e, _⟩ | ⟨g, cap, cur, e, _⟩
            · exact ⟨_, _, _, e⟩
            · exact ⟨_, _, _, e⟩
          obtain ⟨Ay, ny, cy, rfl⟩ : ∃ A n c, y = .slice A n c := by
            rcases oy.2 with ⟨e, _⟩ | ⟨g, cap, cur, e, _⟩
            · exact ⟨_, _, _, e⟩
            · exact ⟨_, _, _, e⟩
          have owa : wr.ownsRow B 35 1 va i xs := by have := RA.1; rw [hli] at this; exact this
          have RAh : Aside (RB B wr 35 41 va xs ((L.take i).map (List.take 6))) := RA
          have RBh : Aside (RB B wr 53 55 vb ys ((L.take i).map (List.take 6))) := RBb
          have OXh : Aside (wr.ownsRow B 41 5 (.slice Ax nx cx) (ks.take 6).length (flat (ks.take 6))) := ox
          have OYh : Aside (wr.ownsRow B 55 5 (.slice Ay ny cy) (ks.take 6).length (flat (ks.take 6))) := oy
          have HLI : Hid (((L.take i).map (List.take 6)).length = i) := hli
          clear htk6 hk6 ox oy RA RBb hli hkk2 hbe' hok hokk hox hoy hRa hRb hbel hbe
          rcases hcs with ⟨u1, u2⟩ | u1
          · go_wp2_with (first
              | (at_builtin; refine wpList_append_own_at _ rfl _ _ 25 rfl B 35 i35 (.slice none 0 0) 1 24 hu25 hi hz0 hz1 hz2 rfl (by decide) _ _ _ rfl (owa.alloc _) ⟨wr.heap.size, 0, none⟩ 1 1 [.slice Ax nx cx] rfl rfl (cell_one_new _ _ _) (by intro u hu; simp at hu; subst hu; rfl) (by unfold maxLen; omega) (by omega) (by simp; omega) ?_))
            intro va' w2 hown' hgrow _ _
            have A2 : Aside (RB B w2 35 41 va' (xs ++ [.slice Ax nx cx]) ((L.take (i + 1)).map (List.take 6))) := by
              rw [hLs.out]
              exact RB.grow RAh.out OXh.out (by rw [HLI.out]; exact hown') hgrow (by decide)
            have Bb2 : Aside (RB B w2 53 55 vb ys ((L.take i).map (List.take 6))) := (RBh.out.alloc _).kept (owa.alloc _) (by decide) (by decide) hgrow
            have Y2 : Aside (w2.ownsRow B 55 5 (.slice Ay ny cy) (ks.take 6).length (flat (ks.take 6))) := (OYh.out.alloc _).kept hgrow (own_ne OYh.out owa (by decide))
            have L2 : Aside (Below B w w2) := by
              refine (BW.out.alloc hsB _).grown hgrow (by simp; omega) ?_
              intro g hg
              rcases own_block owa with e | ⟨g', cur, e, hb', _⟩
              · rw [e] at hg; cases hg
              · rw [e] at hg
                obtain rfl : g' = g := by simpa using hg
                exact hb'
            have hsB2 : B ≤ w2.heap.size := by have := L2.out.size; have := HB.out; omega
            have owb : w2.ownsRow B 53 1 vb i ys := by have h := Bb2.out.1; rw [HLI.out] at h; exact h
            clear hown' hgrow owa
            go_wp2_with (first
              | (at_builtin; refine wpList_append_own_at _ rfl _ _ 26 rfl B 53 i53 (.slice none 0 0) 1 24 hu26 hj hy0 hy1 hy2 rfl (by decide) _ _ _ rfl (owb.alloc _) ⟨w2.heap.size, 0, none⟩ 1 1 [.slice Ay ny cy] rfl rfl (cell_one_new _ _ _) (by intro u hu; simp at hu; subst hu; rfl) (by unfold maxLen; omega) (by omega) (by simp; omega) ?_))
            intro vb' w3 hown' hgrow _ _
            have Bb3 : Aside (RB B w3 53 55 vb' (ys ++ [.slice Ay ny cy]) ((L.take (i + 1)).map (List.take 6))) := by
              rw [hLs.out]
              exact RB.grow Bb2.out Y2.out (by rw [HLI.out]; exact hown') hgrow (by decide)
            have A3 : Aside (RB B w3 35 41 va' (xs ++ [.slice Ax nx cx]) ((L.take (i + 1)).map (List.take 6))) := (A2.out.alloc _).kept (owb.alloc _) (by decide) (by decide) hgrow
            have L3 : Aside (Below B w w3) := by
              refine (L2.out.alloc hsB2 _).grown hgrow (by simp; omega) ?_
              intro g hg
              rcases own_block owb with e | ⟨g', cur, e, hb', _⟩
              · rw [e] at hg; cases hg
              · rw [e] at hg
                obtain rfl : g' = g := by simpa using hg
                exact hb'
            clear hown' hgrow owb
            go_wp2_with fail
            go_roundg (m - (i + 1))
            case measure => omega
            case rel => exact ⟨i + 1, _, _, _, _, by go_num, rfl, rfl, by omega, by omega, A3, Bb3, OK1, L3⟩
          · go_wp2_with (first
              | (at_builtin; refine wpList_append_own_at _ rfl _ _ 25 rfl B 35 i35 (.slice none 0 0) 1 24 hu25 hi hz0 hz1 hz2 rfl (by decide) _ _ _ rfl (owa.alloc _) ⟨wr.heap.size, 0, none⟩ 1 1 [.slice Ax nx cx] rfl rfl (cell_one_new _ _ _) (by intro u hu; simp at hu; subst hu; rfl) (by unfold maxLen; omega) (by omega) (by simp; omega) ?_))
            intro va' w2 hown' hgrow _ _
            have A2 : Aside (RB B w2 35 41 va' (xs ++ [.slice Ax nx cx]) ((L.take (i + 1)).map (List.take 6))) := by
              rw [hLs.out]
              exact RB.grow RAh.out OXh.out (by rw [HLI.out]; exact hown') hgrow (by decide)
            have Bb2 : Aside (RB B w2 53 55 vb ys ((L.take i).map (List.take 6))) := (RBh.out.alloc _).kept (owa.alloc _) (by decide) (by decide) hgrow
            have Y2 : Aside (w2.ownsRow B 55 5 (.slice Ay ny cy) (ks.take 6).length (flat (ks.take 6))) := (OYh.out.alloc _).kept hgrow (own_ne OYh.out owa (by decide))
            have L2 : Aside (Below B w w2) := by
              refine (BW.out.alloc hsB _).grown hgrow (by simp; omega) ?_
              intro g hg
              rcases own_block owa with e | ⟨g', cur, e, hb', _⟩
              · rw [e] at hg; cases hg
              · rw [e] at hg
                obtain rfl : g' = g := by simpa using hg
                exact hb'
            have hsB2 : B ≤ w2.heap.size := by have := L2.out.size; have := HB.out; omega
            have owb : w2.ownsRow B 53 1 vb i ys := by have h := Bb2.out.1; rw [HLI.out] at h; exact h
            clear hown' hgrow owa
            go_wp2_with (first
              | (at_builtin; refine wpList_append_own_at _ rfl _ _ 26 rfl B 53 i53 (.slice none 0 0) 1 24 hu26 hj hy0 hy1 hy2 rfl (by decide) _ _ _ rfl (owb.alloc _) ⟨w2.heap.size, 0, none⟩ 1 1 [.slice Ay ny cy] rfl rfl (cell_one_new _ _ _) (by intro u hu; simp at hu; subst hu; rfl) (by unfold maxLen; omega) (by omega) (by simp; omega) ?_))
            intro vb' w3 hown' hgrow _ _
            have Bb3 : Aside (RB B w3 53 55 vb' (ys ++ [.slice Ay ny cy]) ((L.take (i + 1)).map (List.take 6))) := by
              rw [hLs.out]
              exact RB.grow Bb2.out Y2.out (by rw [HLI.out]; exact hown') hgrow (by decide)
            have A3 : Aside (RB B w3 35 41 va' (xs ++ [.slice Ax nx cx]) ((L.take (i + 1)).map (List.take 6))) := (A2.out.alloc _).kept (owb.alloc _) (by decide) (by decide) hgrow
            have L3 : Aside (Below B w w3) := by
              refine (L2.out.alloc hsB2 _).grown hgrow (by simp; omega) ?_
              intro g hg
              rcases own_block owb with e | ⟨g', cur, e, hb', _⟩
              · rw [e] at hg; cases hg
              · rw [e] at hg
                obtain rfl : g' = g := by simpa using hg
                exact hb'
            clear hown' hgrow owb
            go_wp2_with fail
            go_roundg (m - (i + 1))
            case measure => omega
            case rel => exact ⟨i + 1, _, _, _, _, by go_num, rfl, rfl, by omega, by omega, A3, Bb3, OK1, L3⟩
    · have e : i = m := by omega
      have h3 : ((i : Int) < (len : Int) ∧ ¬ (i : Int) < 40) ∨ ¬ (i : Int) < (len : Int) := by omega
      have ha : Aside (RB B w1 35 41 va xs ((L.take m).map (List.take 6))) := by rw [← e]; exact hRa.out
      have hb' : Aside (RB B w1 53 55 vb ys ((L.take m).map (List.take 6))) := by rw [← e]; exact hRb.out
      have hc : Aside (∀ ks ∈ (L.take m).map (List.take 6), ∀ k ∈ ks, k.ok) := by rw [← e]; exact hok.out
      clear e hRa hRb hok
      rcases h3 with ⟨u1, u2⟩ | u1
      · go_wp2_with fail
        go_returns
        exact ⟨hbel.out, Or.inr ⟨va, vb, xs, ys, rfl, by rw [← List.map_take]; exact ha.out, by rw [← List.map_take]; exact hb'.out, by first | exact hc.out | (rw [← List.map_take]; exact hc.out)⟩⟩
      · go_wp2_with fail
        go_returns
        exact ⟨hbel.out, Or.inr ⟨va, vb, xs, ys, rfl, by rw [← List.map_take]; exact ha.out, by rw [← List.map_take]; exact hb'.out, by first | exact hc.out | (rw [← List.map_take]; exact hc.out)⟩⟩

set_option maxHeartbeats 400000 in
theorem rows_zero (A : Option Addr) (cap : Nat) (w : World) :
    Calls Tryd.prog 15 #[.slice A 0 cap] w fun e w' => e = .returned (.tuple #[.slice none 0 0, .slice none 0 0, .bool true]) ∧ w = w' := by
  go_enter Tryd.func15, Tryd.ntmps15
  go_wp2_with fail
  refine wp_loop_rounds 1 ?_
  rw [rounds_succ]
  go_wp2_with fail
  go_returns
  exact ⟨rfl, rfl⟩
end Go.Proofs.YtkigjcdjiheneaaDoor
