/- xsort.Order's closure: two rows compared. -/
import Derived.Test.YtkigjcdjiheneaaDoorOrd
namespace Go.Proofs.YtkigjcdjiheneaaDoor
open Go.RowKit Go.Sten Go.Lib Go.Shelf

set_option maxHeartbeats 8000000 in
set_option maxRecDepth 100000 in
theorem order1_any (bx rb c n i j : Nat) (K X Y : List KeyD) (AK AX AY : Option Addr) (cK cX cY : Nat) (w : World)
    (hbx : w.cell? ⟨bx, 0, none⟩ = some (.slice (some ⟨rb, 0, none⟩) n c)) (hbl : bx < w.heap.size) (hrl : rb < w.heap.size) (hn : n ≤ 1000) (h0 : 0 < n) (hi : i < n) (hj : j < n)
    (hK : w.cell? ⟨rb, 0, none⟩ = some (.slice AK K.length cK)) (hX : w.cell? ⟨rb, i, none⟩ = some (.slice AX X.length cX)) (hY : w.cell? ⟨rb, j, none⟩ = some (.slice AY Y.length cY))
    (rK : RowIs w AK cK K) (rX : RowIs w AX cX X) (rY : RowIs w AY cY Y) (lK : K.length ≤ 1000) (lX : X.length ≤ 1000) (lY : Y.length ≤ 1000) :
    Calls Tryd.prog 26 #[.int .i64 i, .int .i64 j, .pointer (some ⟨bx, 0, none⟩)] w fun e w' => e = .returned (.int .i64 (rowCmp X Y 0 K)) ∧ Gw w w' := by
  have HG : Aside (∀ W, Gw w W → W.cell? ⟨bx, 0, none⟩ = some (.slice (some ⟨rb, 0, none⟩) n c) ∧ W.cell? ⟨rb, 0, none⟩ = some (.slice AK K.length cK) ∧ W.cell? ⟨rb, i, none⟩ = some (.slice AX X.length cX) ∧ W.cell? ⟨rb, j, none⟩ = some (.slice AY Y.length cY)) :=
    fun W g => ⟨(g.cell hbl).trans hbx, (g.cell hrl).trans hK, (g.cell hrl).trans hX, (g.cell hrl).trans hY⟩
  obtain ⟨kn, hkn⟩ : ∃ kn, kn = K.length := ⟨_, rfl⟩
  have HK : Aside (RowIs w AK cK K) := rK
  have HX : Aside (RowIs w AX cX X) := rX
  have HY : Aside (RowIs w AY cY Y) := rY
  have hi0 : (0 : Int) ≤ (i : Int) := by omega
  have hin : (i : Int) < (n : Int) := by omega
  have hj0 : (0 : Int) ≤ (j : Int) := by omega
  have hjn : (j : Int) < (n : Int) := by omega
  have hn0 : (0 : Int) < (n : Int) := by omega
  clear rK rX rY
  go_enter Tryd.func26, Tryd.ntmps26
  go_wp2_with fail
  go_loopg [15] K.length (fun kx s15 wr => ∃ (ix : Nat), s15 = .int .i64 ix ∧ ix ≤ K.length ∧ K.length - ix ≤ kx ∧ Aside (Gw w wr) ∧ Hid (rowCmp X Y ix (K.drop ix) = rowCmp X Y 0 K))
  case atStart => exact ⟨0, rfl, by omega, by omega, Gw.refl w, rfl⟩
  case round =>
    obtain ⟨ix, rfl, hix, hkx, hg, heq⟩ := hrel
    by_cases hlt : ix < K.length
    · have hltz : (ix : Int) < (K.length : Int) := by omega
      obtain ⟨k, hk⟩ : ∃ k, K[ix]? = some k := ⟨K[ix], by simp [hlt]⟩
      obtain ⟨kb, rfl, hkb, hkc, hkk⟩ : ∃ b, AK = some ⟨b, 0, none⟩ ∧ b < w.heap.size ∧ K.length ≤ cK ∧ ∀ (j : Nat) (k : KeyD), K[j]? = some k → ∀ (t : Nat) (v : Value), k.cells[t]? = some v → w.cell? ⟨b, j * 5 + t, none⟩ = some v := by
        rcases HK.out with ⟨_, h⟩ | h
        · rw [h] at hlt; simp at hlt
        · exact h
      have f := hkk ix k hk
      have f0 : wr.cell? ⟨kb, ix * 5, none⟩ = some (.bool k.number) := (hg.out.cell hkb).trans (f 0 _ rfl)
      have f1 : wr.cell? ⟨kb, ix * 5 + 1, none⟩ = some (.bool k.down) := (hg.out.cell hkb).trans (f 1 _ rfl)
      have f2 : wr.cell? ⟨kb, ix * 5 + 2, none⟩ = some (.string k.text) := (hg.out.cell hkb).trans (f 2 _ rfl)
      have f3 : wr.cell? ⟨kb, ix * 5 + 3, none⟩ = some (.int .i64 k.kind) := (hg.out.cell hkb).trans (f 3 _ rfl)
      have f4 : wr.cell? ⟨kb, ix * 5 + 4, none⟩ = some (.int .i64 k.v) := (hg.out.cell hkb).trans (f 4 _ rfl)
      clear f
      have HKK : Aside _ := hkk
      clear hkk
      go_wp2_with fail
      obtain ⟨W1, hW1⟩ : ∃ W1, W1 = wr.alloc (Obj.cells #[Value.bool k.number, Value.bool k.down, Value.string k.text, Value.int IntKind.i64 k.kind, Value.int IntKind.i64 k.v] 41) := ⟨_, rfl⟩
      have GA : Aside (Gw w W1 ∧ w.heap.size ≤ wr.heap.size ∧ wr.heap.size < W1.heap.size) := ⟨by rw [hW1]; exact hg.out.alloc _, hg.out.size, by rw [hW1]; simp⟩
      have d0 : W1.cell? ⟨wr.heap.size, 0, none⟩ = some (.bool k.number) := by rw [hW1]; simp
      have d1 : W1.cell? ⟨wr.heap.size, 1, none⟩ = some (.bool k.down) := by rw [hW1]; simp
      obtain ⟨kb1, hkb1⟩ : ∃ b, b = wr.heap.size := ⟨_, rfl⟩
      rw [← hkb1] at GA d0 d1 ⊢
      rw [← hW1]
      have GB : Aside (Gw w W1 ∧ w.heap.size ≤ kb1 ∧ kb1 < W1.heap.size) := GA
      clear hW1 hkb1 f0 f1 f2 f3 f4 hg GA
      have HC : Aside (∀ W, Gw W1 W → W.cell? ⟨bx, 0, none⟩ = some (.slice (some ⟨rb, 0, none⟩) n c) ∧ W.cell? ⟨rb, i, none⟩ = some (.slice AX X.length cX) ∧ W.cell? ⟨rb, j, none⟩ = some (.slice AY Y.length cY)) :=
        fun W g => ⟨(HG.out W (GB.out.1.trans g)).1, (HG.out W (GB.out.1.trans g)).2.2.1, (HG.out W (GB.out.1.trans g)).2.2.2⟩
      obtain ⟨z1, z2, z3⟩ := HC.out W1 (Gw.refl _)
      obtain ⟨KX, hKX⟩ : ∃ KX, KX = X.getD ix KeyD.zero := ⟨_, rfl⟩
      obtain ⟨KY, hKY⟩ : ∃ KY, KY = Y.getD ix KeyD.zero := ⟨_, rfl⟩
      have HKX : Hid (KX = X.getD ix KeyD.zero) := hKX
      have HKY : Hid (KY = Y.getD ix KeyD.zero) := hKY
      have pX : Aside (∀ W, Gw W1 W → Calls Tryd.prog 27 #[.slice AX X.length cX, .int .i64 ix] W fun e W' => e = .returned (.agg #[.bool KX.number, .bool KX.down, .string KX.text, .int .i64 KX.kind, .int .i64 KX.v]) ∧ Gw W1 W' ∧ Gw W W') := fun W g => (at_any AX cX X ix W (HX.out.gw (GB.out.1.trans g)) (by omega) (by omega)).mono (by rintro e w1 ⟨h1, h2⟩; exact ⟨by rw [h1, ← hKX]; rfl, g.trans h2, h2⟩)
      have pY : Aside (∀ W, Gw W1 W → Calls Tryd.prog 27 #[.slice AY Y.length cY, .int .i64 ix] W fun e W' => e = .returned (.agg #[.bool KY.number, .bool KY.down, .string KY.text, .int .i64 KY.kind, .int .i64 KY.v]) ∧ Gw W1 W' ∧ Gw W W') := fun W g => (at_any AY cY Y ix W (HY.out.gw (GB.out.1.trans g)) (by omega) (by omega)).mono (by rintro e w1 ⟨h1, h2⟩; exact ⟨by rw [h1, ← hKY]; rfl, g.trans h2, h2⟩)
      clear hbx hK hX hY HK HX HY hKX hKY
      go_cut [8, 9, 15] from 15 to 51 (fun s8 s9 s15 wx => s15 = .int .i64 ix ∧ ∃ (a b : Nat), s8 = .pointer (some ⟨a, 0, none⟩) ∧ s9 = .pointer (some ⟨b, 0, none⟩) ∧ Gw W1 wx ∧ wx.cell? ⟨a, 2, none⟩ = some (.string KX.text) ∧ wx.cell? ⟨b, 2, none⟩ = some (.string KY.text) ∧
        wx.cell? ⟨a, 3, none⟩ = some (.int .i64 KX.kind) ∧ wx.cell? ⟨a, 4, none⟩ = some (.int .i64 KX.v) ∧ wx.cell? ⟨b, 3, none⟩ = some (.int .i64 KY.kind) ∧ wx.cell? ⟨b, 4, none⟩ = some (.int .i64 KY.v))
      case first =>
        have k0 := And.intro z1 (And.intro z2 z3)
        go_region_held3 (fun w' => w'.cell? ⟨bx, 0, none⟩ = some (.slice (some ⟨rb, 0, none⟩) n c) ∧ w'.cell? ⟨rb, i, none⟩ = some (.slice AX X.length cX) ∧ w'.cell? ⟨rb, j, none⟩ = some (.slice AY Y.length cY))
          (first
            | with_reducible exact k2 | with_reducible exact k1 | with_reducible exact k0
            | (with_reducible refine HC.out _ ?_
               repeat (first
                 | with_reducible assumption | with_reducible exact Gw.refl _ | with_reducible apply Gw.drewN | with_reducible apply Gw.drew | with_reducible apply Gw.alloc | (with_reducible refine Gw.setCell ?_ _ _ _ ?_)
                 | with_reducible exact Nat.le_refl _ | exact Nat.le_succ _ | exact g1.size | exact Nat.le_succ_of_le g1.size | exact g2.size | exact Nat.le_succ_of_le g2.size)))
          ((first
            | (with_reducible refine (pX.out _ ?hx).mono ?_
               case hx => (repeat (with_reducible (first | assumption | exact Gw.refl _ | apply Gw.drewN | apply Gw.drew | apply Gw.alloc)))
               rintro e w1 ⟨rfl, g1, h1⟩; have k1 := HC.out w1 g1
               (try (have v1 : Five w1 W1.heap.size := Five.gw (by with_reducible (first | assumption | exact Five.drew Five.new | exact Five.drew Five.new1 | exact Five.drew (Five.old Five.new) | exact Five.new | exact Five.new1 | exact Five.old Five.new | exact Five.old v1 | exact Five.old (Five.old v1) | exact Five.old v2 | exact Five.old (Five.old v2))) h1; refine Five.out v1 ?_; intros))
               (try (have v2 : Five w1 (W1.heap.size + 1) := Five.gw (by with_reducible (first | assumption | exact Five.drew Five.new | exact Five.drew Five.new1 | exact Five.drew (Five.old Five.new) | exact Five.new | exact Five.new1 | exact Five.old Five.new | exact Five.old v1 | exact Five.old (Five.old v1) | exact Five.old v2 | exact Five.old (Five.old v2))) h1; refine Five.out v2 ?_; intros)))
            | (with_reducible refine (pY.out _ ?hy).mono ?_
               case hy => (repeat (with_reducible (first | assumption | exact Gw.refl _ | apply Gw.drewN | apply Gw.drew | apply Gw.alloc)))
               rintro e w2 ⟨rfl, g2, h2⟩; have k2 := HC.out w2 g2
               (try (have y1 : Five w2 W1.heap.size := Five.gw (by with_reducible (first | assumption | exact Five.drew Five.new | exact Five.drew Five.new1 | exact Five.drew (Five.old Five.new) | exact Five.new | exact Five.new1 | exact Five.old Five.new | exact Five.old v1 | exact Five.old (Five.old v1) | exact Five.old v2 | exact Five.old (Five.old v2))) h2; refine Five.out y1 ?_; intros))
               (try (have y2 : Five w2 (W1.heap.size + 1) := Five.gw (by with_reducible (first | assumption | exact Five.drew Five.new | exact Five.drew Five.new1 | exact Five.drew (Five.old Five.new) | exact Five.new | exact Five.new1 | exact Five.old Five.new | exact Five.old v1 | exact Five.old (Five.old v1) | exact Five.old v2 | exact Five.old (Five.old v2))) h2; refine Five.out y2 ?_; intros))
               (try (have y3 : Five w2 w1.heap.size := Five.gw (by with_reducible (first | assumption | exact Five.drew Five.new | exact Five.drew Five.new1 | exact Five.drew (Five.old Five.new) | exact Five.new | exact Five.new1 | exact Five.old Five.new | exact Five.old v1 | exact Five.old (Five.old v1) | exact Five.old v2 | exact Five.old (Five.old v2))) h2; refine Five.out y3 ?_; intros))
               (try (have y4 : Five w2 (w1.heap.size + 1) := Five.gw (by with_reducible (first | assumption | exact Five.drew Five.new | exact Five.drew Five.new1 | exact Five.drew (Five.old Five.new) | exact Five.new | exact Five.new1 | exact Five.old Five.new | exact Five.old v1 | exact Five.old (Five.old v1) | exact Five.old v2 | exact Five.old (Five.old v2))) h2; refine Five.out y4 ?_; intros)))))
        all_goals (try go_wp2_with fail)
        all_goals go_meet
        all_goals refine ⟨rfl, _, _, rfl, rfl, ?_, ?_, ?_, ?_, ?_, ?_, ?_⟩
        all_goals (first | (go_simp; done) | ((repeat (with_reducible (first | assumption | exact Gw.refl _ | apply Gw.drewN | apply Gw.drew | apply Gw.alloc | (refine Gw.setCell ?_ _ _ _ ?_) | exact Nat.le_refl _ | exact Nat.le_succ _ | exact Gw.size (by assumption) | exact Nat.le_succ_of_le (Gw.size (by assumption))))); done))
      case rest =>
        obtain ⟨rfl, pa, pb, rfl, rfl, g2, e1, e2, e3, e4, e5, e6⟩ := hcut
        have GC : Aside (Gw w wc) := GB.out.1.trans g2
        have d0' : wc.cell? ⟨kb1, 0, none⟩ = some (.bool k.number) := (g2.cell (by exact GB.out.2.2)).trans d0
        have d1' : wc.cell? ⟨kb1, 1, none⟩ = some (.bool k.down) := (g2.cell (by exact GB.out.2.2)).trans d1
        clear d0 d1 z1 z2 z3 pX pY HC g2
        have HR : Hid (rowCmp X Y 0 K = if keyCmp k KX KY = 0 then rowCmp X Y (ix + 1) (K.drop (ix + 1)) else keyCmp k KX KY) := by
          show _ = _
          rw [← heq.out, List.drop_eq_getElem_cons hlt, show K[ix] = k by simpa [hlt] using hk, HKX.out, HKY.out]
          rfl
        have cS := fun W => cmpS_any KX.text KY.text W
        have cN := fun W => numbers_any KX.kind KX.v KY.kind KY.v W
        have tS := cmpS_tri KX.text KY.text
        have tN := numN_tri KX.kind KX.v KY.kind KY.v
        have HK0 : Hid (keyCmp k KX KY = if k.down = true then -(if k.number = true then numN KX.kind KX.v KY.kind KY.v else cmpS KX.text KY.text) else (if k.number = true then numN KX.kind KX.v KY.kind KY.v else cmpS KX.text KY.text)) := rfl
        obtain ⟨c1, hc1⟩ : ∃ c1, c1 = cmpS KX.text KY.text := ⟨_, rfl⟩
        obtain ⟨c2, hc2⟩ : ∃ c2, c2 = numN KX.kind KX.v KY.kind KY.v := ⟨_, rfl⟩
        rw [← hc1] at cS tS HK0
        rw [← hc2] at cN tN HK0
        obtain ⟨kc, hkc⟩ : ∃ kc, kc = keyCmp k KX KY := ⟨_, rfl⟩
        rw [← hkc] at HR HK0
        obtain ⟨q, hq⟩ : ∃ q, q = k.number := ⟨_, rfl⟩
        obtain ⟨dn, hdn⟩ : ∃ dn, dn = k.down := ⟨_, rfl⟩
        rw [← hq] at d0' HK0
        rw [← hdn] at d1' HK0
        clear hc1 hc2 hkc hq hdn heq HKX HKY hk
        have QS : Aside _ := cS
        have QN : Aside _ := cN
        clear cS cN
        cases q with
        | false =>
          clear tN QN
          rcases tS with rfl | rfl | rfl <;> cases dn
          all_goals go_wp2_with fail
          all_goals refine (QS.out _).mono ?_
          all_goals rintro e w3 ⟨rfl, rfl⟩
          all_goals go_wp2_with fail
          all_goals first
            | (go_ret
               exact ⟨by show Ending.returned (.int .i64 _) = _; rw [HR.out, HK0.out]; rfl, GC.out⟩)
            | (go_roundg (K.length - (ix + 1))
               case measure => omega
               case rel => exact ⟨ix + 1, by go_num, by omega, by omega, GC.out, by show _ = _; rw [HR.out, HK0.out]; rfl⟩)
        | true =>
          rcases tN with rfl | rfl | rfl <;> cases dn
          all_goals go_wp2_with fail
          all_goals refine (QS.out _).mono ?_
          all_goals rintro e w3 ⟨rfl, rfl⟩
          all_goals go_wp2_with fail
          all_goals refine (QN.out _).mono ?_
          all_goals rintro e w4 ⟨rfl, g4⟩
          all_goals have d1'' : w4.cell? ⟨kb1, 1, none⟩ = _ := (g4.cell (World.block_lt_of_cell? _ _ d1')).trans d1'
          all_goals go_wp2_with fail
          all_goals first
            | (go_ret
               exact ⟨by show Ending.returned (.int .i64 _) = _; rw [HR.out, HK0.out]; rfl, GC.out.trans g4⟩)
            | (go_roundg (K.length - (ix + 1))
               case measure => omega
               case rel => exact ⟨ix + 1, by go_num, by omega, by omega, GC.out.trans g4, by show _ = _; rw [HR.out, HK0.out]; rfl⟩)
    · have hltz : ¬ (ix : Int) < (K.length : Int) := by omega
      have e3 : ix = K.length := by omega
      have e2 : rowCmp X Y 0 K = 0 := by rw [← heq.out, List.drop_eq_nil_of_le (by omega)]; rfl
      clear heq
      have E2 : Hid (rowCmp X Y 0 K = 0) := e2
      clear e2
      go_wp2_with fail
      go_ret
      exact ⟨by rw [E2.out]; rfl, hg.out⟩
end Go.Proofs.YtkigjcdjiheneaaDoor
