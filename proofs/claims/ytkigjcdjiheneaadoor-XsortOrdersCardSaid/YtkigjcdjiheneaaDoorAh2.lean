/- The reference's ahead, by its contract. -/
import Derived.Test.YtkigjcdjiheneaaDoorAhd
namespace Go.Proofs.YtkigjcdjiheneaaDoor
open Go.RowKit Go.Sten Go.Lib Go.Shelf

set_option maxHeartbeats 4000000 in
set_option maxRecDepth 100000 in
theorem ahead_any (K X Y : List KeyD) (AK AX AY : Option Addr) (cK cX cY : Nat) (w : World)
    (rK : RowIs w AK cK K) (rX : RowIs w AX cX X) (rY : RowIs w AY cY Y) (lK : K.length ≤ 1000) (lX : X.length ≤ 1000) (lY : Y.length ≤ 1000) (hX : ∀ k ∈ X, k.ok) (hY : ∀ k ∈ Y, k.ok) :
    Calls Tryd.prog 30 #[.slice AK K.length cK, .slice AX X.length cX, .slice AY Y.length cY] w fun e w' => e = .returned (.bool (decide (rowCmp X Y 0 K < 0))) ∧ Gw w w' := by
  have HK : Aside (RowIs w AK cK K) := rK
  have HX : Aside (RowIs w AX cX X) := rX
  have HY : Aside (RowIs w AY cY Y) := rY
  have OX : Aside (∀ k ∈ X, k.ok) := hX
  have OY : Aside (∀ k ∈ Y, k.ok) := hY
  clear rK rX rY hX hY
  go_enter Tryd.func30, Tryd.ntmps30
  go_wp2_with fail
  go_loopg [7] K.length (fun kx s7 wr => ∃ (ix : Nat), s7 = .int .i64 ix ∧ ix ≤ K.length ∧ K.length - ix ≤ kx ∧ Aside (Gw w wr) ∧ Hid (rowCmp X Y ix (K.drop ix) = rowCmp X Y 0 K))
  case atStart => exact ⟨0, rfl, by omega, by omega, Gw.refl w, rfl⟩
  case round =>
    obtain ⟨ix, rfl, hix, hkx, hg, heq⟩ := hrel
    by_cases hlt : ix < K.length
    · have hltz : (ix : Int) < (K.length : Int) := by omega
      obtain ⟨k, hk⟩ : ∃ k, K[ix]? = some k := ⟨K[ix], by simp [hlt]⟩
      obtain ⟨kb, rfl, hkb, hkc, hkk⟩ : ∃ b, AK = some ⟨b, 0, none⟩ ∧ b < w.heap.size ∧ K.length ≤ cK ∧ ∀ (j : Nat) (k : KeyD), K[j]? = some k → ∀ (t : Nat) (v : Value), k.cells[t]? = some v → w.cell? ⟨b, j * 5 + t, none⟩ = some v := by
        rcases HK.out with ⟨_, h⟩ | h
        · rw [h] at hlt; simp at hlt
        · exact h
      have f := hkk ix k hk
      have F : Aside (∀ W, Gw w W → W.cell? ⟨kb, ix * 5, none⟩ = some (.bool k.number) ∧ W.cell? ⟨kb, ix * 5 + 1, none⟩ = some (.bool k.down)) := fun W g => ⟨(g.cell hkb).trans (f 0 _ rfl), (g.cell hkb).trans (f 1 _ rfl)⟩
      have HKK : Aside _ := hkk
      obtain ⟨KX, hKX⟩ : ∃ KX, KX = X.getD ix KeyD.zero := ⟨_, rfl⟩
      obtain ⟨KY, hKY⟩ : ∃ KY, KY = Y.getD ix KeyD.zero := ⟨_, rfl⟩
      have okz : KeyD.zero.ok := rfl
      have okX : KX.ok := by
        rw [hKX]
        by_cases h : ix < X.length
        · exact OX.out _ (by simp [List.getD, h])
        · simp only [List.getD, List.getElem?_eq_none (by omega : X.length ≤ ix)]; exact okz
      have okY : KY.ok := by
        rw [hKY]
        by_cases h : ix < Y.length
        · exact OY.out _ (by simp [List.getD, h])
        · simp only [List.getD, List.getElem?_eq_none (by omega : Y.length ≤ ix)]; exact okz
      have HR : Hid (rowCmp X Y 0 K = if keyCmp k KX KY = 0 then rowCmp X Y (ix + 1) (K.drop (ix + 1)) else keyCmp k KX KY) := by
        show _ = _
        rw [← heq.out, List.drop_eq_getElem_cons hlt, show K[ix] = k by simpa [hlt] using hk, hKX, hKY]
        rfl
      have c1 := hid (key_any AX cX X ix wr (HX.out.gw hg.out) (by omega) (by omega))
      have c2 : Hid (∀ W, Gw w W → Calls Tryd.prog 49 #[.slice AY Y.length cY, .int .i64 ix] W fun e w' => e = .returned KY.val ∧ Gw W w') := fun W g => by rw [hKY]; exact key_any AY cY Y ix W (HY.out.gw g) (by omega) (by omega)
      rw [← hKX] at c1
      have C1 : Hid (Calls Tryd.prog 49 #[.slice AX X.length cX, .int .i64 ix] wr fun e w' => e = .returned (.agg #[.bool KX.number, .bool KX.down, .string KX.text, .int .i64 KX.kind, .int .i64 KX.v]) ∧ Gw wr w') := c1
      have C2 : Hid (∀ W, Gw w W → Calls Tryd.prog 49 #[.slice AY Y.length cY, .int .i64 ix] W fun e w' => e = .returned (.agg #[.bool KY.number, .bool KY.down, .string KY.text, .int .i64 KY.kind, .int .i64 KY.v]) ∧ Gw W w') := c2
      clear hkk f hKX hKY heq hk c1 c2
      go_wp2_with fail
      refine C1.out.mono ?_
      rintro _ w1 ⟨rfl, g1⟩
      go_wp2_with fail
      refine (C2.out w1 (hg.out.trans g1)).mono ?_
      rintro _ w2 ⟨rfl, g2⟩
      have LX : Aside (∀ W, Calls Tryd.prog 50 #[.agg #[.int .i64 KX.kind, .int .i64 KX.v], .agg #[.int .i64 KY.kind, .int .i64 KY.v]] W fun e w' => e = .returned (.bool (lessN KX.kind KX.v KY.kind KY.v)) ∧ Gw W w') := fun W => by
        rw [← lessR_eq KX KY okX okY]; exact lessR_any _ _ _ _ W
      have LY : Aside (∀ W, Calls Tryd.prog 50 #[.agg #[.int .i64 KY.kind, .int .i64 KY.v], .agg #[.int .i64 KX.kind, .int .i64 KX.v]] W fun e w' => e = .returned (.bool (lessN KY.kind KY.v KX.kind KX.v)) ∧ Gw W w') := fun W => by
        rw [← lessR_eq KY KX okY okX]; exact lessR_any _ _ _ _ W
      have g12 : Aside (Gw w w2) := (hg.out.trans g1).trans g2
      have kf := F.out w2 g12
      have hk2 : kb < w2.heap.size := Nat.lt_of_lt_of_le hkb g12.out.size
      have hk3 : kb < w2.heap.size + 1 := by omega
      clear C1 C2 g1 g2 hg
      have HK0 : Hid (keyCmp k KX KY = if k.down = true then -(if k.number = true then numN KX.kind KX.v KY.kind KY.v else cmpS KX.text KY.text) else (if k.number = true then numN KX.kind KX.v KY.kind KY.v else cmpS KX.text KY.text)) := rfl
      obtain ⟨c1, hc1⟩ : ∃ c1, c1 = cmpS KX.text KY.text := ⟨_, rfl⟩
      obtain ⟨c2, hc2⟩ : ∃ c2, c2 = numN KX.kind KX.v KY.kind KY.v := ⟨_, rfl⟩
      rw [← hc1, ← hc2] at HK0
      have T1 : (c1 = -1 ∧ Op.bytesLess KX.text.toList KY.text.toList = true ∧ (KX.text.toList == KY.text.toList) = false ∧ Op.bytesLess KY.text.toList KX.text.toList = false ∧ (KY.text.toList == KX.text.toList) = false) ∨
          (c1 = 0 ∧ Op.bytesLess KX.text.toList KY.text.toList = false ∧ (KX.text.toList == KY.text.toList) = true ∧ Op.bytesLess KY.text.toList KX.text.toList = false ∧ (KY.text.toList == KX.text.toList) = true) ∨
          (c1 = 1 ∧ Op.bytesLess KX.text.toList KY.text.toList = false ∧ (KX.text.toList == KY.text.toList) = false ∧ Op.bytesLess KY.text.toList KX.text.toList = true ∧ (KY.text.toList == KX.text.toList) = false) := by
        rw [hc1]
        unfold cmpS
        generalize KX.text.toList = a
        generalize KY.text.toList = b
        have asym : ∀ a b, Op.bytesLess a b = true → Op.bytesLess b a = false ∧ (a == b) = false ∧ (b == a) = false := fun a b h => by
          refine ⟨?_, ?_, ?_⟩
          · cases h2 : Op.bytesLess b a with
            | false => rfl
            | true => have := bl_trans a b a h h2; rw [bl_irrefl] at this; cases this
          · cases h2 : (a == b) with
            | false => rfl
            | true => rw [show a = b by simpa using h2, bl_irrefl] at h; cases h
          · cases h2 : (b == a) with
            | false => rfl
            | true => rw [show b = a by simpa using h2, bl_irrefl] at h; cases h
        rcases bl_total a b with h | h | h
        · left; obtain ⟨h1, h2, h3⟩ := asym a b h; rw [h, h1, h2, h3]; simp
        · right; left; subst h; rw [bl_irrefl]; simp
        · right; right; obtain ⟨h1, h2, h3⟩ := asym b a h; rw [h, h1, h2, h3]; simp
      have T2 : (c2 = -1 ∧ lessN KX.kind KX.v KY.kind KY.v = true ∧ lessN KY.kind KY.v KX.kind KX.v = false) ∨ (c2 = 0 ∧ lessN KX.kind KX.v KY.kind KY.v = false ∧ lessN KY.kind KY.v KX.kind KX.v = false) ∨ (c2 = 1 ∧ lessN KX.kind KX.v KY.kind KY.v = false ∧ lessN KY.kind KY.v KX.kind KX.v = true) := by
        rw [hc2]
        unfold numN
        cases h1 : lessN KX.kind KX.v KY.kind KY.v with
        | true =>
          have h2 : lessN KY.kind KY.v KX.kind KX.v = false := by
            cases h2 : lessN KY.kind KY.v KX.kind KX.v with
            | false => rfl
            | true => have := less_swo.trans (KX.kind, KX.v) (KY.kind, KY.v) (KX.kind, KX.v) h1 h2; rw [less_swo.irrefl] at this; cases this
          simp [h2]
        | false => cases h2 : lessN KY.kind KY.v KX.kind KX.v <;> simp
      obtain ⟨kc, hkc⟩ : ∃ kc, kc = keyCmp k KX KY := ⟨_, rfl⟩
      rw [← hkc] at HR HK0
      obtain ⟨q, hq⟩ : ∃ q, q = k.number := ⟨_, rfl⟩
      obtain ⟨dn, hdn⟩ : ∃ dn, dn = k.down := ⟨_, rfl⟩
      obtain ⟨kf0, kf1⟩ := kf
      rw [← hq] at kf0 HK0
      rw [← hdn] at kf1 HK0
      obtain ⟨lx, hlx⟩ : ∃ lx, lx = lessN KX.kind KX.v KY.kind KY.v := ⟨_, rfl⟩
      obtain ⟨ly, hly⟩ : ∃ ly, ly = lessN KY.kind KY.v KX.kind KX.v := ⟨_, rfl⟩
      rw [← hlx] at T2 LX
      rw [← hly] at T2 LY
      clear hlx hly hq hdn hkc hc1 hc2 okX okY
      cases q with
      | false =>
        clear T2 LX LY
        rcases T1 with ⟨rfl, t1, t2, t3, t4⟩ | ⟨rfl, t1, t2, t3, t4⟩ | ⟨rfl, t1, t2, t3, t4⟩ <;> cases dn
        all_goals go_wp2_with fail
        all_goals first
          | (go_ret
             exact ⟨by show Ending.returned (.bool _) = _; rw [HR.out, HK0.out]; first | rfl | simp [t1] | simp [t3] | simp [t2] | simp [t4], (g12.out.alloc _).alloc _⟩)
          | (go_roundg (K.length - (ix + 1))
             case measure => omega
             case rel => exact ⟨ix + 1, by go_num, by omega, by omega, (g12.out.alloc _).alloc _, by show _ = _; rw [HR.out, HK0.out]; rfl⟩)
      | true =>
        clear T1
        cases dn with
        | false =>
          rcases T2 with ⟨rfl, rfl, rfl⟩ | ⟨rfl, rfl, rfl⟩ | ⟨rfl, rfl, rfl⟩
          all_goals go_wp2_with fail
          all_goals first
            | (with_reducible refine (LX.out _).mono ?_)
            | (with_reducible refine (LY.out _).mono ?_)
          all_goals rintro _ w4 ⟨rfl, g4⟩
          all_goals have e1 : w4.cell? ⟨w2.heap.size, 3, none⟩ = some (.int .i64 KX.kind) := (g4.cell (by simp; omega)).trans (by simp)
          all_goals have e2 : w4.cell? ⟨w2.heap.size, 4, none⟩ = some (.int .i64 KX.v) := (g4.cell (by simp; omega)).trans (by simp)
          all_goals have e3 : w4.cell? ⟨w2.heap.size + 1, 3, none⟩ = some (.int .i64 KY.kind) := (g4.cell (by simp)).trans (by simp)
          all_goals have e4 : w4.cell? ⟨w2.heap.size + 1, 4, none⟩ = some (.int .i64 KY.v) := (g4.cell (by simp)).trans (by simp)
          all_goals have G4 : Aside (Gw w w4) := ((g12.out.alloc _).alloc _).trans g4
          all_goals clear g4
          all_goals go_wp2_with fail
          all_goals first
            | (go_ret
               exact ⟨by show Ending.returned (.bool _) = _; rw [HR.out, HK0.out]; rfl, G4.out⟩)
            | ((first
                | (with_reducible refine (LX.out _).mono ?_)
                | (with_reducible refine (LY.out _).mono ?_))
               rintro _ w5 ⟨rfl, g5⟩
               go_wp2_with fail
               first
                | (go_ret
                   exact ⟨by show Ending.returned (.bool _) = _; rw [HR.out, HK0.out]; rfl, G4.out.trans g5⟩)
                | (go_roundg (K.length - (ix + 1))
                   case measure => omega
                   case rel => exact ⟨ix + 1, by go_num, by omega, by omega, G4.out.trans g5, by show _ = _; rw [HR.out, HK0.out]; rfl⟩))
        | true =>
          rcases T2 with ⟨rfl, rfl, rfl⟩ | ⟨rfl, rfl, rfl⟩ | ⟨rfl, rfl, rfl⟩
          all_goals go_wp2_with fail
          all_goals first
            | (with_reducible refine (LX.out _).mono ?_)
            | (with_reducible refine (LY.out _).mono ?_)
          all_goals rintro _ w4 ⟨rfl, g4⟩
          all_goals have e1 : w4.cell? ⟨w2.heap.size, 3, none⟩ = some (.int .i64 KY.kind) := (g4.cell (by simp; omega)).trans (by simp)
          all_goals have e2 : w4.cell? ⟨w2.heap.size, 4, none⟩ = some (.int .i64 KY.v) := (g4.cell (by simp; omega)).trans (by simp)
          all_goals have e3 : w4.cell? ⟨w2.heap.size + 1, 3, none⟩ = some (.int .i64 KX.kind) := (g4.cell (by simp)).trans (by simp)
          all_goals have e4 : w4.cell? ⟨w2.heap.size + 1, 4, none⟩ = some (.int .i64 KX.v) := (g4.cell (by simp)).trans (by simp)
          all_goals have G4 : Aside (Gw w w4) := ((g12.out.alloc _).alloc _).trans g4
          all_goals clear g4
          all_goals go_wp2_with fail
          all_goals first
            | (go_ret
               exact ⟨by show Ending.returned (.bool _) = _; rw [HR.out, HK0.out]; rfl, G4.out⟩)
            | ((first
                | (with_reducible refine (LX.out _).mono ?_)
                | (with_reducible refine (LY.out _).mono ?_))
               rintro _ w5 ⟨rfl, g5⟩
               go_wp2_with fail
               first
                | (go_ret
                   exact ⟨by show Ending.returned (.bool _) = _; rw [HR.out, HK0.out]; rfl, G4.out.trans g5⟩)
                | (go_roundg (K.length - (ix + 1))
                   case measure => omega
                   case rel => exact ⟨ix + 1, by go_num, by omega, by omega, G4.out.trans g5, by show _ = _; rw [HR.out, HK0.out]; rfl⟩))
    · have hltz : ¬ (ix : Int) < (K.length : Int) := by omega
      have e2 : rowCmp X Y 0 K = 0 := by rw [← heq.out, List.drop_eq_nil_of_le (by omega)]; rfl
      clear heq
      have E2 : Hid (rowCmp X Y 0 K = 0) := e2
      clear e2
      go_wp2_with fail
      go_ret
      exact ⟨by rw [E2.out]; rfl, hg.out⟩
end Go.Proofs.YtkigjcdjiheneaaDoor
