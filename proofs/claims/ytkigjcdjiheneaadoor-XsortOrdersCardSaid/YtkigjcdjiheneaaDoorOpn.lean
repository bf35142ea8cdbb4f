/- What the data of a [][]Key argument says of the cells: rows that came in. -/
import Derived.Test.YtkigjcdjiheneaaDoorRws
import Derived.SliceStrings
import Derived.ChangeSlices
import Derived.WideShapes
namespace Go.Proofs.YtkigjcdjiheneaaDoor
open Go.RowKit Go.Sten Go.Lib Go.Shelf Go.ChangeShapes Go.WideShapes

theorem five_of {β : Type} : ∀ (l : List β), l.length = 5 → ∃ a0 a1 a2 a3 a4, l = [a0, a1, a2, a3, a4]
  | [_, _, _, _, _], _ => ⟨_, _, _, _, _, rfl⟩
theorem list_of {β : Type} (P : Nat → β → Prop) : ∀ n, (∀ j, j < n → ∃ k, P j k) → ∃ l : List β, l.length = n ∧ ∀ (j : Nat) (k : β), l[j]? = some k → P j k
  | 0, _ => ⟨[], rfl, fun j k h => by simp at h⟩
  | n + 1, h => by
    obtain ⟨l, hl, hp⟩ := list_of P n (fun j hj => h j (by omega))
    obtain ⟨k, hk⟩ := h n (by omega)
    refine ⟨l ++ [k], by simp [hl], fun j k' hj => ?_⟩
    by_cases hlt : j < n
    · rw [List.getElem?_append_left (by omega)] at hj
      exact hp j k' hj
    · have hj2 : j = n := by
        have := (List.getElem?_eq_some_iff.1 hj).1
        simp [hl] at this
        omega
      subst hj2
      rw [← hl, List.getElem?_concat_length] at hj
      obtain rfl : k = k' := by simpa using hj
      exact hk

def flds : Option TypeDesc → Option (List (TypeId × Nat))
  | some (.struct fs) => some (fs.toList.map (fun f => (f.type, f.offset)))
  | _ => none
theorem fields41 : flds (Tryd.prog.underlying 41) = some [(4, 0), (4, 1), (9, 2), (39, 3)] := by kernel_rfl
theorem fields39 : flds (Tryd.prog.underlying 39) = some [(37, 0), (2, 1)] := by kernel_rfl
theorem size41 : Tryd.prog.cellsOf 41 = 5 ∧ Tryd.prog.cellsOf 39 = 2 ∧ Tryd.prog.cellsOf 35 = 1 ∧ Tryd.prog.cellsOf 4 = 1 ∧ Tryd.prog.cellsOf 9 = 1 ∧ Tryd.prog.cellsOf 37 = 1 ∧ Tryd.prog.cellsOf 2 = 1 := ⟨by kernel_rfl, by kernel_rfl, by kernel_rfl, by kernel_rfl, by kernel_rfl, by kernel_rfl, by kernel_rfl⟩
theorem kinds41 : Tryd.prog.underlying 4 = some .bool ∧ Tryd.prog.underlying 9 = some .string ∧ Tryd.prog.underlying 37 = some (.int .i64) ∧ Tryd.prog.underlying 2 = some (.int .i64) ∧ Tryd.prog.underlying 35 = some (.slice 41) ∧ Tryd.prog.underlying 25 = some (.slice 35) := ⟨by kernel_rfl, by kernel_rfl, by kernel_rfl, by kernel_rfl, by kernel_rfl, by kernel_rfl⟩

theorem struct_of {t : TypeId} {l : List (TypeId × Nat)} (h : flds (Tryd.prog.underlying t) = some l) :
    ∃ fs : Array Field, Tryd.prog.underlying t = some (.struct fs) ∧ l.length = fs.size ∧ ∀ (i : Nat) (p : TypeId × Nat), l[i]? = some p → ∃ f, fs[i]? = some f ∧ f.type = p.1 ∧ f.offset = p.2 := by
  generalize Tryd.prog.underlying t = u at h ⊢
  unfold flds at h
  split at h
  · rename_i fs
    have h2 : fs.toList.map (fun f => (f.type, f.offset)) = l := by simpa using h
    refine ⟨fs, rfl, by rw [← h2]; simp, fun i p hp => ?_⟩
    rw [← h2, List.getElem?_map] at hp
    cases hf : fs.toList[i]? with
    | none => rw [hf] at hp; cases hp
    | some f =>
      rw [hf] at hp
      have hp2 : (f.type, f.offset) = p := by simpa using hp
      exact ⟨f, by simpa using hf, by rw [← hp2], by rw [← hp2]⟩
  · cases h

section
variable {H : Type} {enc : TypeId × Value → H} {w : World} {base : Nat} {sp : Nat → Bool} {held : Bool}

theorem field_of {t : TypeId} {l : List (TypeId × Nat)} (hl : flds (Tryd.prog.underlying t) = some l) {fuel : Nat} {cs : List Value} {x : DataW H × List MemPlace}
    (h : DataW.trod enc Tryd.prog w base sp held fuel t cs = some x) :
    cs.length = Tryd.prog.cellsOf t ∧ ∃ n, ∀ (i : Nat) (p : TypeId × Nat), l[i]? = some p → ∃ y, DataW.trod enc Tryd.prog w base sp held n p.1 ((cs.drop p.2).take (Tryd.prog.cellsOf p.1)) = some y := by
  obtain ⟨fs, hfs, hz, hg⟩ := struct_of hl
  obtain ⟨xs, n, _, _, hlen, hxs, hf⟩ := DataW.trod_struct hfs h
  refine ⟨hlen, n, fun i p hp => ?_⟩
  obtain ⟨f, hf1, hf2, hf3⟩ := hg i p hp
  have := hf i f hf1
  rw [hf2, hf3] at this
  have h5 : i < l.length := (List.getElem?_eq_some_iff.1 hp).1
  have hi : i < xs.length := Nat.lt_of_lt_of_eq h5 (hz.trans hxs.symm)
  rw [List.getElem?_eq_getElem hi] at this
  exact ⟨_, this⟩

theorem open_key {fuel : Nat} {cs : List Value} {x : DataW H × List MemPlace} (h : DataW.trod enc Tryd.prog w base sp held fuel 41 cs = some x) : ∃ k : KeyD, cs = k.cells := by
  obtain ⟨s41, s39, s35, s4, s9, s37, s2⟩ := size41
  obtain ⟨u4, u9, u37, u2, _, _⟩ := kinds41
  obtain ⟨hl, n, hf⟩ := field_of fields41 h
  rw [s41] at hl
  obtain ⟨a0, a1, a2, a3, a4, rfl⟩ : ∃ a0 a1 a2 a3 a4, cs = [a0, a1, a2, a3, a4] := five_of cs hl
  obtain ⟨y0, h0⟩ := hf 0 _ rfl
  obtain ⟨y1, h1⟩ := hf 1 _ rfl
  obtain ⟨y2, h2⟩ := hf 2 _ rfl
  obtain ⟨y3, h3⟩ := hf 3 _ rfl
  rw [s4] at h0 h1
  rw [s9] at h2
  rw [s39] at h3
  obtain ⟨b0, e0, _⟩ := DataW.trod_bool u4 h0
  obtain ⟨b1, e1, _⟩ := DataW.trod_bool u4 h1
  obtain ⟨s, e2, _⟩ := DataW.trod_string u9 h2
  obtain ⟨hl3, n3, hf3⟩ := field_of fields39 h3
  obtain ⟨z0, g0⟩ := hf3 0 _ rfl
  obtain ⟨z1, g1⟩ := hf3 1 _ rfl
  rw [s37] at g0
  rw [s2] at g1
  obtain ⟨k, e3, _⟩ := DataW.trod_int u37 g0
  obtain ⟨v, e4, _⟩ := DataW.trod_int u2 g1
  simp at e0 e1 e2 e3 e4
  exact ⟨⟨b0, b1, s, k, v⟩, by rw [e0, e1, e2, e3, e4]; rfl⟩

theorem open_row {fuel : Nat} {cs : List Value} {x : DataW H × List MemPlace} (h : DataW.trod enc Tryd.prog w base sp held fuel 35 cs = some x) :
    ∃ A n c ks, cs = [.slice A n c] ∧ ks.length = n ∧ n ≤ maxLen ∧ InRow w A ks := by
  obtain ⟨s41, _⟩ := size41
  obtain ⟨_, _, _, _, u35, _⟩ := kinds41
  rcases DataW.trod_slice u35 h with ⟨h0, _⟩ | ⟨a, len, cap, elems, rest, n, _, rfl, _, hb, hl, hm, hlen, hel, _, _⟩
  · exact ⟨none, 0, 0, [], h0, rfl, Nat.zero_le _, Or.inl rfl⟩
  · rw [s41] at hel
    have each : ∀ j, j < len → ∃ k : KeyD, ∀ (t : Nat) (v : Value), k.cells[t]? = some v → w.cell? ((a.add (j * 5)).add t) = some v := by
      intro j hj
      have h1 := hel j hj
      rw [List.getElem?_eq_getElem (by omega)] at h1
      obtain ⟨cs', hc, ht⟩ := Option.bind_eq_some_iff.1 h1
      obtain ⟨k, rfl⟩ := open_key ht
      obtain ⟨_, _, hcell⟩ := World.cells?_some hc
      refine ⟨k, fun t v hv => ?_⟩
      rw [hcell t (List.getElem?_eq_some_iff.1 hv).1]
      exact hv
    obtain ⟨ks, hk, hp⟩ := list_of _ len each
    refine ⟨some a, len, cap, ks, rfl, hk, by omega, ?_⟩
    by_cases h0 : len = 0
    · left; exact List.length_eq_zero_iff.1 (by omega)
    · right
      obtain ⟨b, off, spot⟩ := a
      obtain ⟨k0, hk0⟩ : ∃ k0, ks[0]? = some k0 := ⟨ks[0]'(by omega), List.getElem?_eq_getElem _⟩
      have hs := hp 0 k0 hk0 0 _ rfl
      have hspot : spot = none := by
        have := World.cell?_spot hs
        simpa [Addr.add] using this
      subst hspot
      have hb2 := World.block_lt_of_cell? w (⟨b, off + 0 * 5 + 0, none⟩ : Addr) (by rw [← WideShapes.add_plain, ← WideShapes.add_plain]; exact hs)
      refine ⟨b, off, rfl, hb2, fun j k hj t v hv => ?_⟩
      have := hp j k hj t v hv
      rw [WideShapes.add_plain, WideShapes.add_plain] at this
      exact this

theorem open_rows {fuel : Nat} {A : Option Addr} {len cap : Nat} {x : DataW H × List MemPlace} (h : DataW.trod enc Tryd.prog w base sp held fuel 25 [.slice A len cap] = some x) (h0 : 0 < len) :
    ∃ b off L, A = some ⟨b, off, none⟩ ∧ L.length = len ∧ InRows w b off L ∧ ∀ ks ∈ L, (ks.length : Int) ≤ 9223372036854775807 := by
  obtain ⟨_, _, s35, _⟩ := size41
  obtain ⟨_, _, _, _, _, u25⟩ := kinds41
  rcases DataW.trod_slice u25 h with ⟨h1, _⟩ | ⟨a, len', cap', elems, rest, n, _, hcs, _, hb, hl, hm, hlen, hel, _, _⟩
  · simp at h1; omega
  · simp at hcs
    obtain ⟨rfl, rfl, rfl⟩ := hcs
    rw [s35] at hel
    have each : ∀ j, j < len → ∃ ks : List KeyD, ks.length ≤ maxLen ∧ ∃ A c, w.cell? (a.add j) = some (.slice A ks.length c) ∧ InRow w A ks := by
      intro j hj
      have h1 := hel j hj
      rw [List.getElem?_eq_getElem (by omega), Nat.mul_one] at h1
      obtain ⟨cs', hc, ht⟩ := Option.bind_eq_some_iff.1 h1
      obtain ⟨A, n, c, ks, rfl, hk, hm, hr⟩ := open_row ht
      exact ⟨ks, by omega, A, c, by rw [cell_of_cells?_one hc, hk], hr⟩
    obtain ⟨L, hL, hp⟩ := list_of _ len each
    obtain ⟨b, off, spot⟩ := a
    obtain ⟨r0, hr0⟩ : ∃ r0, L[0]? = some r0 := ⟨L[0]'(by omega), List.getElem?_eq_getElem _⟩
    obtain ⟨_, A0, c0, hs, _⟩ := hp 0 r0 hr0
    have hspot : spot = none := by
      have := World.cell?_spot hs
      simpa [Addr.add] using this
    subst hspot
    have hb2 := World.block_lt_of_cell? w (⟨b, off + 0, none⟩ : Addr) (by rw [← WideShapes.add_plain]; exact hs)
    refine ⟨b, off, L, rfl, hL, ⟨hb2, fun i ks hi => ?_⟩, fun ks hks => ?_⟩
    · obtain ⟨_, A, c, h1, h2⟩ := hp i ks hi
      rw [WideShapes.add_plain] at h1
      exact ⟨A, c, h1, h2⟩
    · obtain ⟨i, hi⟩ := List.getElem?_of_mem hks
      have := (hp i ks hi).1
      unfold maxLen at this
      omega
end
end Go.Proofs.YtkigjcdjiheneaaDoor
