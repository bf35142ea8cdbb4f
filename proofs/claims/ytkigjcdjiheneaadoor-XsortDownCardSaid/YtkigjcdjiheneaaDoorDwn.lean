/- stencillaw13.XsortDown: the walk. -/
import Derived.Test.YtkigjcdjiheneaaDoorBld
import Derived.Test.YtkigjcdjiheneaaDoorFmt
namespace Go.Proofs.YtkigjcdjiheneaaDoor
open Go.RowKit Go.Sten Go.Lib Go.Shelf

def kdD (ss : List ByteArray) (j : Nat) : KeyD := ⟨false, true, ss.getD j ByteArray.empty, 0, 0⟩

theorem down_law (ss : List ByteArray) (m : Nat) (rs : List (List KeyD)) (hrs : rs = ((List.range m).map (kdD ss)).map (fun k => [k])) (p q : Nat) (hpq : p < q) (hq : q < m) :
    (Op.bytesLess (ss.getD ((ordR rs m).getD p 0) ByteArray.empty).toList (ss.getD ((ordR rs m).getD q 0) ByteArray.empty).toList = false) ∧ ((ss.getD ((ordR rs m).getD p 0) ByteArray.empty).toList = (ss.getD ((ordR rs m).getD q 0) ByteArray.empty).toList → (ordR rs m).getD p 0 ≤ (ordR rs m).getD q 0) := by
  have h := ordR_sorted rs m p q hpq hq
  have ha := ordR_lt rs m p (by omega)
  have hb := ordR_lt rs m q hq
  generalize (ordR rs m).getD p 0 = a at h ha ⊢
  generalize (ordR rs m).getD q 0 = b at h hb ⊢
  have get : ∀ i, i < m → rs.getD i [] = [kdD ss i] := fun i hi => by rw [hrs]; simp [List.getD, hi]
  rw [get a ha, get b hb, get 0 (by omega)] at h
  have e : rowCmp [kdD ss a] [kdD ss b] 0 [kdD ss 0] = -(cmpS (ss.getD a ByteArray.empty) (ss.getD b ByteArray.empty)) := by
    simp only [rowCmp]
    have e2 : keyCmp (kdD ss 0) ([kdD ss a].getD 0 KeyD.zero) ([kdD ss b].getD 0 KeyD.zero) = -(cmpS (ss.getD a ByteArray.empty) (ss.getD b ByteArray.empty)) := by simp [keyCmp, kdD]
    rw [e2]
    split <;> omega
  rw [e] at h
  generalize ss.getD a ByteArray.empty = x at h ⊢
  generalize ss.getD b ByteArray.empty = y at h ⊢
  unfold cmpS at h
  cases h1 : Op.bytesLess x.toList y.toList with
  | true => rw [h1, if_pos rfl] at h; omega
  | false =>
    refine ⟨rfl, fun h2 => ?_⟩
    rw [h1, if_neg (by simp), if_pos (by simpa using h2)] at h
    exact h.2 (by omega)

set_option maxHeartbeats 1600000 in
set_option maxRecDepth 100000 in
theorem down_pos (b off len cap m : Nat) (ss : List ByteArray) (w : World) (hm : m ≤ len) (hm2 : m ≤ 30) (hm3 : m = len ∨ m = 30) (hm0 : 0 < m) (hb : b < w.heap.size)
    (hc : ∀ j, j < len → w.cell? ⟨b, off + j, none⟩ = some (.string (ss.getD j ByteArray.empty))) :
    Calls Tryd.prog 7 #[.slice (some ⟨b, off, none⟩) len cap] w fun e w' => e = .returned (.bool true) ∧ Below w.heap.size w w' := by
  obtain ⟨i0, hi, hz0, hz1, hz2⟩ := info_parts (show (Tryd.prog.info? 35).map (fun i => (i.zero, i.size, i.bytes)) = some (some (.slice none 0 0), 1, 24) by kernel_rfl)
  have hu : Tryd.prog.underlying 25 = some (.slice 35) := by kernel_rfl
  obtain ⟨B, hB⟩ : ∃ B, B = w.heap.size := ⟨_, rfl⟩
  have HB : Hid (B = w.heap.size) := hB
  have HC : Aside (∀ j, j < len → w.cell? ⟨b, off + j, none⟩ = some (.string (ss.getD j ByteArray.empty))) := hc
  rw [← hB] at hb ⊢
  clear hB hc
  go_enter Tryd.func7, Tryd.ntmps7
  go_wp2_with fail
  go_loopg [4, 3] m (fun kx s4 s3 wr => ∃ (i : Nat) (v : Value) (G : List Nat), s4 = .int .i64 i ∧ v = s3 ∧ i ≤ m ∧ m - i ≤ kx ∧ Aside (Built B wr v G ((List.range i).map (kdD ss))) ∧ Aside (Below B w wr))
  case atStart => exact ⟨0, _, [], rfl, rfl, by omega, by omega, Built.nil _ _, Below.refl _ _⟩
  case round =>
    obtain ⟨i, v, G, rfl, rfl, him, hkx, hbu, hbel⟩ := hrel
    by_cases hlt : i < m
    · have h1 : (i : Int) < (len : Int) := by omega
      have h2 : (i : Int) < 30 := by omega
      have h1' : decide ((i : Int) < (len : Int)) = true := by simpa using h1
      have h2' : decide ((i : Int) < 30) = true := by simpa using h2
      obtain ⟨s, hs⟩ : ∃ s, s = ss.getD i ByteArray.empty := ⟨_, rfl⟩
      have hcell : wr.cell? ⟨b, off + i, none⟩ = some (.string s) := by rw [hs]; exact (hbel.out.cell hb).trans (HC.out i (by omega))
      have hkd : Hid (kdD ss i = ⟨false, true, s, 0, 0⟩) := by rw [hs]; rfl
      clear hs
      have hown : wr.ownsRow B 35 1 v i (G.map rowV) := by simpa using hbu.out.1
      have hsz : B ≤ wr.heap.size := by have := hbel.out.size; have := HB.out; omega
      go_wp2_with (first
        | (at_builtin; refine wpList_append_own_at _ rfl _ _ 25 rfl B 35 i0 (.slice none 0 0) 1 24 hu hi hz0 hz1 hz2 rfl (by decide) _ _ _ rfl ((hown.alloc _).alloc _) ⟨wr.heap.size + 1, 0, none⟩ 1 1 [rowV wr.heap.size] rfl rfl ?c1 ?c2 ?c3 ?c4 ?c5 ?_))
      case c1 =>
        intro j u hj
        match j, hj with
        | 0, hj => simp at hj; subst hj; simp [Addr.add, rowV]
      case c2 => intro u hu; simp at hu; subst hu; rfl
      case c3 => unfold maxLen; omega
      case c4 => omega
      case c5 => simp; omega
      intro v' w1 hown' hgrow _ _
      have B1 : Aside (Built B w1 v' (G ++ [wr.heap.size]) ((List.range (i + 1)).map (kdD ss))) := by
        rw [List.range_succ, List.map_append]
        exact Built.grow (k := kdD ss i) hbu.out (by simpa using hown') (by rw [hkd.out]; exact hgrow) hsz
      have L1 : Aside (Below B w w1) := by
        refine ((hbel.out.alloc hsz _).alloc (by simp; omega) _).grown hgrow (by simp; omega) ?_
        intro k hk
        rcases hown.2 with ⟨e, _⟩ | ⟨g, cap, cur, e, hg, _⟩
        · rw [e] at hk; simp [Value.ownBlock] at hk
        · rw [e] at hk; simp [Value.ownBlock] at hk; omega
      clear hown' hgrow hown hbel hbu hkd hcell
      go_wp2_with fail
      go_roundg (m - (i + 1))
      case measure => omega
      case rel => exact ⟨i + 1, _, _, by go_num, rfl, by omega, by omega, B1, L1⟩
    · have e : i = m := by omega
      have HE : Hid (i = m) := e
      have hbu2 : Built B wr v G ((List.range m).map (kdD ss)) := by rw [← e]; exact hbu.out
      clear e
      obtain ⟨rb, c, hv, hrb, hR, ha, ht⟩ := hbu2.rows (by simpa using hm0)
      have hlen : ((List.range m).map (kdD ss)).length = m := by simp
      rw [hlen] at hv ha ht
      subst hv
      obtain ⟨rs, hrs⟩ : ∃ rs, rs = ((List.range m).map (kdD ss)).map (fun k => [k]) := ⟨_, rfl⟩
      rw [← hrs] at hR
      have HRS : Hid (rs = ((List.range m).map (kdD ss)).map (fun k => [k])) := hrs
      have hord := order_at rb c m rs wr (by rw [hrs]; simp) hm0 (by omega) (by rw [hrs]; simp) hR
      have HO := hid hord
      have HA : Aside _ := ha
      have HT : Aside _ := ht
      have hrbl := hR.1
      have h30 : ((i : Int) < (len : Int) ∧ ¬ (i : Int) < 30) ∨ ¬ (i : Int) < (len : Int) := by have := HE.out; omega
      clear hord hR ha ht hbu hbu2 hrs
      rcases h30 with ⟨h1, h2⟩ | h1
      · go_wp2_with fail
        refine HO.out.mono ?_
        rintro _ w2 ⟨g, cap2, rfl, hg, hbo, ho⟩
        have HB2 : Aside (Below B w w2) := hbel.out.trans (hbo.mono (by have := hbel.out.size; have := HB.out; omega))
        have HG : Aside (g < w2.heap.size) := World.block_lt_of_cell? _ _ (ho 0 hm0)
        have HOC : Aside (∀ j, j < m → w2.cell? ⟨g, j, none⟩ = some (.int .i64 (((ordR rs m).getD j 0 : Nat) : Int))) := ho
        have HAC : Aside (∀ j, j < m → w2.cell? ⟨rb, j, none⟩ = some (.slice (some ⟨G.getD j 0, 0, none⟩) 1 1)) := fun j hj => (hbo.cell (by exact hrbl)).trans (HA.out j hj)
        have HTC : Aside (∀ j, j < m → w2.cell? ⟨G.getD j 0, 2, none⟩ = some (.string (ss.getD j ByteArray.empty)) ∧ G.getD j 0 < w2.heap.size) := fun j hj => by
          refine ⟨(hbo.cell (by exact (HT.out j hj).1)).trans ?_, Nat.lt_of_lt_of_le (HT.out j hj).1 hbo.size⟩
          rw [(HT.out j hj).2]
          simp [List.getD, hj, kdD]
        have HRL : Aside (rb < w2.heap.size) := Nat.lt_of_lt_of_le hrbl hbo.size
        have HSP : Aside (∀ p q, p < q → q < m → ((Op.bytesLess (ss.getD ((ordR rs m).getD p 0) ByteArray.empty).toList (ss.getD ((ordR rs m).getD q 0) ByteArray.empty).toList = false) ∧ ((ss.getD ((ordR rs m).getD p 0) ByteArray.empty).toList = (ss.getD ((ordR rs m).getD q 0) ByteArray.empty).toList → (ordR rs m).getD p 0 ≤ (ordR rs m).getD q 0))) := fun p q hpq hq => down_law ss m rs HRS.out p q hpq hq
        clear ho hbo hg HO HA HT hbel hrbl
        go_wp2_with fail
        go_loopg [6] m (fun kx s6 wx => ∃ (i : Nat), s6 = .int .i64 i ∧ 1 ≤ i ∧ i ≤ m ∧ m - i ≤ kx ∧ Aside (Gw w2 wx))
        case atStart => exact ⟨1, rfl, by omega, by omega, by omega, Gw.refl _⟩
        case round =>
          obtain ⟨j, rfl, hj1, hjm, hkx, hgw⟩ := hrel
          by_cases hjlt : j < m
          · obtain ⟨j0, rfl⟩ : ∃ j0, j = j0 + 1 := ⟨j - 1, by omega⟩
            obtain ⟨p, hp⟩ : ∃ p, p = (ordR rs m).getD j0 0 := ⟨_, rfl⟩
            obtain ⟨q, hq⟩ : ∃ q, q = (ordR rs m).getD (j0 + 1) 0 := ⟨_, rfl⟩
            have hpm : p < m := by rw [hp]; exact ordR_lt rs m j0 (by omega)
            have hqm : q < m := by rw [hq]; exact ordR_lt rs m (j0 + 1) hjlt
            have c1 : wr.cell? ⟨g, j0, none⟩ = some (.int .i64 p) := by rw [hp]; exact (hgw.out.cell (by exact HG)).trans (HOC.out j0 (by omega))
            have c2 : wr.cell? ⟨g, j0 + 1, none⟩ = some (.int .i64 q) := by rw [hq]; exact (hgw.out.cell (by exact HG)).trans (HOC.out (j0 + 1) hjlt)
            obtain ⟨gp, hgp⟩ : ∃ gp, gp = G.getD p 0 := ⟨_, rfl⟩
            obtain ⟨gq, hgq⟩ : ∃ gq, gq = G.getD q 0 := ⟨_, rfl⟩
            obtain ⟨sp, hsp⟩ : ∃ sp, sp = ss.getD p ByteArray.empty := ⟨_, rfl⟩
            obtain ⟨sq, hsq⟩ : ∃ sq, sq = ss.getD q ByteArray.empty := ⟨_, rfl⟩
            have c3 : wr.cell? ⟨rb, p, none⟩ = some (.slice (some ⟨gp, 0, none⟩) 1 1) := by rw [hgp]; exact (hgw.out.cell (by exact HRL)).trans (HAC.out p hpm)
            have c4 : wr.cell? ⟨rb, q, none⟩ = some (.slice (some ⟨gq, 0, none⟩) 1 1) := by rw [hgq]; exact (hgw.out.cell (by exact HRL)).trans (HAC.out q hqm)
            have c5 : wr.cell? ⟨gp, 2, none⟩ = some (.string sp) := by rw [hgp, hsp]; exact (hgw.out.cell (by exact (HTC.out p hpm).2)).trans (HTC.out p hpm).1
            have c6 : wr.cell? ⟨gq, 2, none⟩ = some (.string sq) := by rw [hgq, hsq]; exact (hgw.out.cell (by exact (HTC.out q hqm).2)).trans (HTC.out q hqm).1
            have hfacts := HSP.out j0 (j0 + 1) (by omega) hjlt
            rw [← hp, ← hq, ← hsp, ← hsq] at hfacts
            obtain ⟨l1, l2⟩ := hfacts
            clear hp hq hgp hgq hsp hsq
            have e1 : IntKind.i64.wrap (((j0 + 1 : Nat) : Int) - 1) = (j0 : Int) := by rw [IntKind.wrap_i64]; omega
            have b1 : (0 : Int) ≤ (j0 : Int) := by omega
            have b2 : (j0 : Int) < (m : Int) := by omega
            have b3 : (0 : Int) ≤ (p : Int) := by omega
            have b4 : (p : Int) < (m : Int) := by omega
            have b5 : (0 : Int) ≤ (q : Int) := by omega
            have b6 : (q : Int) < (m : Int) := by omega
            have b7 : (0 : Int) ≤ ((j0 + 1 : Nat) : Int) := by omega
            have b8 : ((j0 + 1 : Nat) : Int) < (m : Int) := by omega
            go_wp2_with fail
            have e2 : IntKind.i64.wrap ((j0 : Int) + 1 - 1) = (j0 : Int) := by rw [IntKind.wrap_i64]; omega
            have b9 : (0 : Int) ≤ (j0 : Int) + 1 := by omega
            have b10 : (j0 : Int) + 1 < (m : Int) := by omega
            have b11 : ((j0 : Int) + 1).toNat = j0 + 1 := by omega
            have b12 : ((j0 : Int)).toNat = j0 := by omega
            have b13 : ((p : Int)).toNat = p := by omega
            have b14 : ((q : Int)).toNat = q := by omega
            go_quiet (fail)
            go_wp2_with fail
            cases he : (sp.toList == sq.toList) with
            | true =>
              have hpq : ¬ ((q : Int) < (p : Int)) := by have := l2 (by simpa using he); omega
              have hpq2 : decide ((q : Int) < (p : Int)) = false := by simpa using hpq
              clear l2
              go_quiet (fail)
              go_wp2_with fail
              go_roundg (m - (j0 + 1 + 1))
              case measure => omega
              case rel => exact ⟨j0 + 1 + 1, by go_num, by omega, by omega, by omega, hgw.out.drewN _⟩
            | false =>
              clear l2
              go_quiet (fail)
              go_wp2_with fail
              go_roundg (m - (j0 + 1 + 1))
              case measure => omega
              case rel => exact ⟨j0 + 1 + 1, by go_num, by omega, by omega, by omega, hgw.out.drewN _⟩
          · have e : j = m := by omega
            have hjlt2 : ¬ ((j : Int) < (m : Int)) := by omega
            clear e
            have LV := hid (live_any wr)
            go_wp2_with fail
            refine LV.out.mono ?_
            rintro _ w3 ⟨rfl, h3⟩
            go_wp2_with fail
            go_ret
            exact ⟨rfl, HB2.out.trans (hgw.out.below.mono (by have := HB2.out.size; have := HB.out; omega) |>.trans (h3.mono (by have := HB2.out.size; have := hgw.out.size; have := HB.out; omega)))⟩
      · go_wp2_with fail
        refine HO.out.mono ?_
        rintro _ w2 ⟨g, cap2, rfl, hg, hbo, ho⟩
        have HB2 : Aside (Below B w w2) := hbel.out.trans (hbo.mono (by have := hbel.out.size; have := HB.out; omega))
        have HG : Aside (g < w2.heap.size) := World.block_lt_of_cell? _ _ (ho 0 hm0)
        have HOC : Aside (∀ j, j < m → w2.cell? ⟨g, j, none⟩ = some (.int .i64 (((ordR rs m).getD j 0 : Nat) : Int))) := ho
        have HAC : Aside (∀ j, j < m → w2.cell? ⟨rb, j, none⟩ = some (.slice (some ⟨G.getD j 0, 0, none⟩) 1 1)) := fun j hj => (hbo.cell (by exact hrbl)).trans (HA.out j hj)
        have HTC : Aside (∀ j, j < m → w2.cell? ⟨G.getD j 0, 2, none⟩ = some (.string (ss.getD j ByteArray.empty)) ∧ G.getD j 0 < w2.heap.size) := fun j hj => by
          refine ⟨(hbo.cell (by exact (HT.out j hj).1)).trans ?_, Nat.lt_of_lt_of_le (HT.out j hj).1 hbo.size⟩
          rw [(HT.out j hj).2]
          simp [List.getD, hj, kdD]
        have HRL : Aside (rb < w2.heap.size) := Nat.lt_of_lt_of_le hrbl hbo.size
        have HSP : Aside (∀ p q, p < q → q < m → ((Op.bytesLess (ss.getD ((ordR rs m).getD p 0) ByteArray.empty).toList (ss.getD ((ordR rs m).getD q 0) ByteArray.empty).toList = false) ∧ ((ss.getD ((ordR rs m).getD p 0) ByteArray.empty).toList = (ss.getD ((ordR rs m).getD q 0) ByteArray.empty).toList → (ordR rs m).getD p 0 ≤ (ordR rs m).getD q 0))) := fun p q hpq hq => down_law ss m rs HRS.out p q hpq hq
        clear ho hbo hg HO HA HT hbel hrbl
        go_wp2_with fail
        go_loopg [6] m (fun kx s6 wx => ∃ (i : Nat), s6 = .int .i64 i ∧ 1 ≤ i ∧ i ≤ m ∧ m - i ≤ kx ∧ Aside (Gw w2 wx))
        case atStart => exact ⟨1, rfl, by omega, by omega, by omega, Gw.refl _⟩
        case round =>
          obtain ⟨j, rfl, hj1, hjm, hkx, hgw⟩ := hrel
          by_cases hjlt : j < m
          · obtain ⟨j0, rfl⟩ : ∃ j0, j = j0 + 1 := ⟨j - 1, by omega⟩
            obtain ⟨p, hp⟩ : ∃ p, p = (ordR rs m).getD j0 0 := ⟨_, rfl⟩
            obtain ⟨q, hq⟩ : ∃ q, q = (ordR rs m).getD (j0 + 1) 0 := ⟨_, rfl⟩
            have hpm : p < m := by rw [hp]; exact ordR_lt rs m j0 (by omega)
            have hqm : q < m := by rw [hq]; exact ordR_lt rs m (j0 + 1) hjlt
            have c1 : wr.cell? ⟨g, j0, none⟩ = some (.int .i64 p) := by rw [hp]; exact (hgw.out.cell (by exact HG)).trans (HOC.out j0 (by omega))
            have c2 : wr.cell? ⟨g, j0 + 1, none⟩ = some (.int .i64 q) := by rw [hq]; exact (hgw.out.cell (by exact HG)).trans (HOC.out (j0 + 1) hjlt)
            obtain ⟨gp, hgp⟩ : ∃ gp, gp = G.getD p 0 := ⟨_, rfl⟩
            obtain ⟨gq, hgq⟩ : ∃ gq, gq = G.getD q 0 := ⟨_, rfl⟩
            obtain ⟨sp, hsp⟩ : ∃ sp, sp = ss.getD p ByteArray.empty := ⟨_, rfl⟩
            obtain ⟨sq, hsq⟩ : ∃ sq, sq = ss.getD q ByteArray.empty := ⟨_, rfl⟩
            have c3 : wr.cell? ⟨rb, p, none⟩ = some (.slice (some ⟨gp, 0, none⟩) 1 1) := by rw [hgp]; exact (hgw.out.cell (by exact HRL)).trans (HAC.out p hpm)
            have c4 : wr.cell? ⟨rb, q, none⟩ = some (.slice (some ⟨gq, 0, none⟩) 1 1) := by rw [hgq]; exact (hgw.out.cell (by exact HRL)).trans (HAC.out q hqm)
            have c5 : wr.cell? ⟨gp, 2, none⟩ = some (.string sp) := by rw [hgp, hsp]; exact (hgw.out.cell (by exact (HTC.out p hpm).2)).trans (HTC.out p hpm).1
            have c6 : wr.cell? ⟨gq, 2, none⟩ = some (.string sq) := by rw [hgq, hsq]; exact (hgw.out.cell (by exact (HTC.out q hqm).2)).trans (HTC.out q hqm).1
            have hfacts := HSP.out j0 (j0 + 1) (by omega) hjlt
            rw [← hp, ← hq, ← hsp, ← hsq] at hfacts
            obtain ⟨l1, l2⟩ := hfacts
            clear hp hq hgp hgq hsp hsq
            have e1 : IntKind.i64.wrap (((j0 + 1 : Nat) : Int) - 1) = (j0 : Int) := by rw [IntKind.wrap_i64]; omega
            have b1 : (0 : Int) ≤ (j0 : Int) := by omega
            have b2 : (j0 : Int) < (m : Int) := by omega
            have b3 : (0 : Int) ≤ (p : Int) := by omega
            have b4 : (p : Int) < (m : Int) := by omega
            have b5 : (0 : Int) ≤ (q : Int) := by omega
            have b6 : (q : Int) < (m : Int) := by omega
            have b7 : (0 : Int) ≤ ((j0 + 1 : Nat) : Int) := by omega
            have b8 : ((j0 + 1 : Nat) : Int) < (m : Int) := by omega
            go_wp2_with fail
            have e2 : IntKind.i64.wrap ((j0 : Int) + 1 - 1) = (j0 : Int) := by rw [IntKind.wrap_i64]; omega
            have b9 : (0 : Int) ≤ (j0 : Int) + 1 := by omega
            have b10 : (j0 : Int) + 1 < (m : Int) := by omega
            have b11 : ((j0 : Int) + 1).toNat = j0 + 1 := by omega
            have b12 : ((j0 : Int)).toNat = j0 := by omega
            have b13 : ((p : Int)).toNat = p := by omega
            have b14 : ((q : Int)).toNat = q := by omega
            go_quiet (fail)
            go_wp2_with fail
            cases he : (sp.toList == sq.toList) with
            | true =>
              have hpq : ¬ ((q : Int) < (p : Int)) := by have := l2 (by simpa using he); omega
              have hpq2 : decide ((q : Int) < (p : Int)) = false := by simpa using hpq
              clear l2
              go_quiet (fail)
              go_wp2_with fail
              go_roundg (m - (j0 + 1 + 1))
              case measure => omega
              case rel => exact ⟨j0 + 1 + 1, by go_num, by omega, by omega, by omega, hgw.out.drewN _⟩
            | false =>
              clear l2
              go_quiet (fail)
              go_wp2_with fail
              go_roundg (m - (j0 + 1 + 1))
              case measure => omega
              case rel => exact ⟨j0 + 1 + 1, by go_num, by omega, by omega, by omega, hgw.out.drewN _⟩
          · have e : j = m := by omega
            have hjlt2 : ¬ ((j : Int) < (m : Int)) := by omega
            clear e
            have LV := hid (live_any wr)
            go_wp2_with fail
            refine LV.out.mono ?_
            rintro _ w3 ⟨rfl, h3⟩
            go_wp2_with fail
            go_ret
            exact ⟨rfl, HB2.out.trans (hgw.out.below.mono (by have := HB2.out.size; have := HB.out; omega) |>.trans (h3.mono (by have := HB2.out.size; have := hgw.out.size; have := HB.out; omega)))⟩

set_option maxHeartbeats 400000 in
theorem down_zero (A : Option Addr) (cap : Nat) (w : World) : Calls Tryd.prog 7 #[.slice A 0 cap] w fun e w' => e = .returned (.bool true) ∧ Below w.heap.size w w' := by
  go_enter Tryd.func7, Tryd.ntmps7
  go_wp2_with fail
  refine wp_loop_rounds 1 ?_
  rw [rounds_succ]
  go_wp2_with fail
  refine (order_nil _).mono ?_
  rintro _ w2 ⟨rfl, hb⟩
  go_wp2_with fail
  refine wp_loop_rounds 1 ?_
  rw [rounds_succ]
  go_wp2_with fail
  refine (live_any w2).mono ?_
  rintro _ w3 ⟨rfl, h3⟩
  go_wp2_with fail
  go_ret
  exact ⟨rfl, below_both hb h3⟩

theorem down_any (b off len cap : Nat) (ss : List ByteArray) (w : World) (hb : b < w.heap.size)
    (hc : ∀ j, j < len → w.cell? ⟨b, off + j, none⟩ = some (.string (ss.getD j ByteArray.empty))) :
    Calls Tryd.prog 7 #[.slice (some ⟨b, off, none⟩) len cap] w fun e w' => e = .returned (.bool true) ∧ Below w.heap.size w w' := by
  by_cases h0 : len = 0
  · subst h0; exact down_zero _ _ _
  · exact down_pos b off len cap (min len 30) ss w (by omega) (by omega) (by omega) (by omega) hb hc
end Go.Proofs.YtkigjcdjiheneaaDoor
