/- stencillaw13.XsortOrders: the walk. -/
import Derived.Test.YtkigjcdjiheneaaDoorRws
import Derived.Test.YtkigjcdjiheneaaDoorFmt
import Derived.Test.YtkigjcdjiheneaaDoorRo1
import Derived.Test.YtkigjcdjiheneaaDoorRnk
namespace Go.Proofs.YtkigjcdjiheneaaDoor
open Go.RowKit Go.Sten Go.Lib Go.Shelf

theorem RowsAt.via {w w' : World} {rb : Nat} {L : List (List KeyD)} (h : RowsAt w rb L) (far : ∀ p : Addr, p.block < w.heap.size → w'.cell? p = w.cell? p) (hle : w.heap.size ≤ w'.heap.size) : RowsAt w' rb L :=
  ⟨Nat.lt_of_lt_of_le h.1 hle, fun i ks hi => by
    obtain ⟨A, c, h1, h2⟩ := h.2 i ks hi
    exact ⟨A, c, (far _ h.1).trans h1, h2.via far hle⟩⟩
section
variable {w : World} {B : Nat} {t s : TypeId} {v : Value} {vs : List Value} {L : List (List KeyD)}
theorem own_row2 {x : Value} {r : List KeyD} (h : w.ownsRow B s 5 x r.length (flat r)) : ∃ A c, x = .slice A r.length c ∧ RowIs w A c r := by
  rcases h.2 with ⟨rfl, h0⟩ | ⟨g, cap, cur, rfl, hb, hh, hc, _, hs, ht⟩
  · exact ⟨none, 0, by rw [h0], Or.inl ⟨rfl, List.length_eq_zero_iff.1 h0⟩⟩
  · refine ⟨_, cap, rfl, Or.inr ⟨g, rfl, lt_of_heap hh, hc, fun j k hk t v hv => ?_⟩⟩
    simp only [World.cell?, hh]
    have h1 := flat_get r j k hk t v hv
    have h2 : j * 5 + t < r.length * 5 := by rw [← flat_len]; exact (List.getElem?_eq_some_iff.1 h1).1
    rw [← ht, List.getElem?_take, if_pos h2] at h1
    simpa using h1
theorem RB.rowsAt2 (h : RB B w t s v vs L) (hn : 0 < L.length) : ∃ rb c, v = .slice (some ⟨rb, 0, none⟩) L.length c ∧ RowsAt w rb L := by
  obtain ⟨h1, h2, h3⟩ := h
  rcases h1.2 with ⟨_, h0⟩ | ⟨g, cap, cur, rfl, hg, hb, hnc, hm, hcs, htk⟩
  · omega
  · have hrow : ∀ j x, vs[j]? = some x → w.cell? ⟨g, j, none⟩ = some x := fun j x hx => by
      simp only [World.cell?, hb]
      have hj := (List.getElem?_eq_some_iff.1 hx).1
      rw [← htk, List.getElem?_take, if_pos (by omega)] at hx
      simpa using hx
    refine ⟨g, cap, rfl, lt_of_heap hb, fun i row hi => ?_⟩
    obtain ⟨x, hx, ho⟩ := h3 i row hi
    obtain ⟨A, c, rfl, hr⟩ := own_row2 ho
    exact ⟨A, c, hrow i _ hx, hr⟩
end

set_option maxRecDepth 100000 in
set_option maxHeartbeats 400000 in
theorem ref_nil (w : World) : Calls Tryd.prog 18 #[.slice none 0 0] w fun e w' => e = .returned (.slice none 0 0) ∧ w = w' := by
  go_enter Tryd.func18, Tryd.ntmps18
  go_wp2_with fail
  refine wp_loop_rounds 1 ?_
  rw [rounds_succ]
  go_wp2_with fail
  go_ret
  exact ⟨rfl, rfl⟩
set_option maxRecDepth 100000 in
set_option maxHeartbeats 400000 in
theorem same_nil (w : World) : Calls Tryd.prog 16 #[.slice none 0 0, .slice none 0 0] w fun e w' => e = .returned (.bool true) ∧ w = w' := by
  go_enter Tryd.func16, Tryd.ntmps16
  go_wp2_with fail
  refine wp_loop_rounds 1 ?_
  rw [rounds_succ]
  go_wp2_with fail
  go_ret
  exact ⟨rfl, rfl⟩

set_option maxRecDepth 100000 in
set_option maxHeartbeats 400000 in
theorem orders_zero (A : Option Addr) (cap : Nat) (w : World) : Calls Tryd.prog 4 #[.slice A 0 cap] w fun e w' => e = .returned (.bool true) ∧ Below w.heap.size w w' := by
  go_enter Tryd.func4, Tryd.ntmps4
  go_wp2_with fail
  refine (rows_zero A cap w).mono ?_
  rintro _ w1 ⟨rfl, rfl⟩
  go_wp2_with fail
  refine (live_any _).mono ?_
  rintro _ w2 ⟨rfl, h2⟩
  go_wp2_with fail
  refine (order_nil _).mono ?_
  rintro _ w3 ⟨rfl, h3⟩
  go_wp2_with fail
  refine (ref_nil _).mono ?_
  rintro _ w4 ⟨rfl, rfl⟩
  go_wp2_with fail
  refine (same_nil _).mono ?_
  rintro _ w5 ⟨rfl, rfl⟩
  go_wp2_with fail
  go_ret
  exact ⟨rfl, below_both h2 h3⟩

set_option maxHeartbeats 4000000 in
set_option maxRecDepth 100000 in
theorem orders_any (arg : Value) (L : List (List KeyD)) (w : World) (hrows : Calls Tryd.prog 15 #[arg] w fun e w' => Below w.heap.size w w' ∧ RowsOut w.heap.size L e w') (h0 : 0 < L.length) (hL : L.length ≤ 40) (hk : ∀ ks ∈ L, ks.length ≤ 6) :
    Calls Tryd.prog 4 #[arg] w fun e w' => e = .returned (.bool true) ∧ Below w.heap.size w w' := by
  obtain ⟨B, hB⟩ : ∃ B, B = w.heap.size := ⟨_, rfl⟩
  have HB : Hid (B = w.heap.size) := hB
  rw [← hB] at hrows ⊢
  have HR := hid hrows
  have HKL : Aside (∀ ks ∈ L, ks.length ≤ 6) := hk
  obtain ⟨n, hn⟩ : ∃ n, n = L.length := ⟨_, rfl⟩
  have HN : Hid (n = L.length) := hn
  rw [← hn] at h0 hL
  clear hrows hB hk hn
  go_enter Tryd.func4, Tryd.ntmps4
  go_wp2_with fail
  refine HR.out.mono ?_
  rintro e w1 ⟨hb1, hout⟩
  have HB1 : Aside (Below B w w1) := hb1
  rcases hout with rfl | ⟨va, vb, xs, ys, rfl, hRa, hRb, hok⟩
  · clear hb1
    go_wp2_with fail
    refine (live_any w1).mono ?_
    rintro _ w2 ⟨rfl, h2⟩
    go_wp2_with fail
    go_ret
    exact ⟨rfl, HB1.out.trans (h2.mono (by have := HB1.out.size; have := HB.out; omega))⟩
  · obtain ⟨rb, c, hva, hR1⟩ := hRa.rowsAt2 (by have := HN.out; omega)
    obtain ⟨sb, d, hvb, hR2⟩ := hRb.rowsAt2 (by have := HN.out; omega)
    rw [← HN.out] at hva hvb
    subst hva
    subst hvb
    have HR1 : Aside (RowsAt w1 rb L) := hR1
    have HR2 : Aside (RowsAt w1 sb L) := hR2
    have HOK : Aside (∀ ks ∈ L, ∀ k ∈ ks, k.ok) := hok
    clear hb1 hRa hRb hR1 hR2 hok
    go_wp2_with fail
    refine (live_any w1).mono ?_
    rintro _ w2 ⟨rfl, h2⟩
    have HB2 : Aside (Below w1.heap.size w1 w2) := h2
    have R1 : Aside (RowsAt w2 rb L) := HR1.out.via (fun p hp => h2.cell hp) h2.size
    have R2 : Aside (RowsAt w2 sb L) := HR2.out.via (fun p hp => h2.cell hp) h2.size
    clear h2 HR1 HR2
    go_wp2_with fail
    refine (order_at rb c n L w2 HN.out.symm h0 (by omega) (fun ks h => Nat.le_trans (HKL.out ks h) (by omega)) R1.out).mono ?_
    rintro _ w3 ⟨g, cap, rfl, hg, hb3, ho⟩
    have HB3 : Aside (Below w2.heap.size w2 w3) := hb3
    have HG : Aside (g < w3.heap.size) := World.block_lt_of_cell? _ _ (ho 0 h0)
    have HO : Aside (∀ j, j < n → w3.cell? ⟨g, j, none⟩ = some (.int .i64 (((ordR L n).getD j 0 : Nat) : Int))) := ho
    have R3 : Aside (RowsAt w3 sb L) := R2.out.via (fun p hp => hb3.cell hp) hb3.size
    clear ho hb3 hg R1 R2
    go_wp2_with fail
    refine (ref_at sb d n L w3 HN.out.symm (by omega) (fun ks h => Nat.le_trans (HKL.out ks h) (by omega)) HOK.out R3.out).mono ?_
    rintro _ w4 ⟨A, cap2, rfl, hb4, hown⟩
    have HB4 : Aside (Below w3.heap.size w3 w4) := hb4
    obtain ⟨A', c', he, _, hsh⟩ := own_shape hown
    obtain ⟨rfl, rfl⟩ : A = A' ∧ cap2 = c' := by injection he; exact ⟨by assumption, by assumption⟩
    rcases hsh with ⟨_, h00, _⟩ | ⟨h, rfl, _, hh, hcell⟩
    · omega
    · have HS : Aside (Calls Tryd.prog 16 #[.slice (some ⟨g, 0, none⟩) n cap, .slice (some ⟨h, 0, none⟩) n cap2] w4 fun e w' => e = .returned (.bool true) ∧ Gw w4 w') := by
        refine same_any g h n cap cap2 (ordR L n) w4 (by omega) (Nat.lt_of_lt_of_le HG.out hb4.size) hh (fun j hj => (hb4.cell (by exact HG.out)).trans (HO.out j hj)) (fun j hj => ?_)
        have hlen : (refO (cmpL L) n).length = n := by rw [refO_ordR, ordR_len]
        have := hcell j _ (ints_get _ j (by rw [hlen]; exact hj))
        rw [refO_ordR] at this
        exact this
      clear hcell hown he hh hb4
      go_wp2_with fail
      refine HS.out.mono ?_
      rintro _ w5 ⟨rfl, g5⟩
      go_wp2_with fail
      go_ret
      have l0 := HB1.out.size
      have l1 := HB2.out.size
      have l2 := HB3.out.size
      have l3 := HB4.out.size
      have l4 := HB.out
      exact ⟨rfl, (((HB1.out.trans (HB2.out.mono (by omega))).trans (HB3.out.mono (by omega))).trans (HB4.out.mono (by omega))).trans (g5.below.mono (by omega))⟩
end Go.Proofs.YtkigjcdjiheneaaDoor
