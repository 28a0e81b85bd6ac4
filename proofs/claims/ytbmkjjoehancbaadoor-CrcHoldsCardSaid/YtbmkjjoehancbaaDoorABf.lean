/- A block of bytes that may be stored into. -/
import Derived.Test.YtbmkjjoehancbaaDoorAL1
import Derived.Laws.MakeOwn
import Derived.Laws.OwnMore
namespace Go.Proofs.YtbmkjjoehancbaaDoor.ACrc
open Go.RowKit Go.Proofs.YtbmkjjoehancbaaDoor.Crc

/-- block g holds the bytes xs from its start on, and may be stored into -/
structure Buf (W : World) (g : Nat) (xs : List Int) : Prop where
  at' : ∃ cur, W.heap[g]? = some (.cells cur 5 (0, 0)) ∧ xs.length ≤ cur.size ∧ ∀ j, j < xs.length → cur[j]? = some (.int .u8 (xs.getD j 0))
theorem Buf.lt {W : World} {g : Nat} {xs : List Int} (h : Buf W g xs) : g < W.heap.size := by
  obtain ⟨cur, h, _⟩ := h.at'
  rcases Nat.lt_or_ge g W.heap.size with h' | h'
  · exact h'
  · rw [Array.getElem?_eq_none h'] at h; cases h
theorem Buf.cell {W : World} {g : Nat} {xs : List Int} (h : Buf W g xs) (j : Nat) (hj : j < xs.length) : W.cell? ⟨g, j, none⟩ = some (.int .u8 (xs.getD j 0)) := by
  obtain ⟨cur, h, _, hc⟩ := h.at'
  simp [World.cell?, h, hc j hj]
theorem Buf.unfrozen {W : World} {g : Nat} {xs : List Int} (h : Buf W g xs) (j : Nat) : W.frozen? ⟨g, j, none⟩ = false := by
  obtain ⟨cur, h, _⟩ := h.at'
  simp [World.frozen?, h]
theorem Buf.rd {W : World} {g : Nat} {xs : List Int} (h : Buf W g xs) (hb : Bs xs) (hl : xs.length ≤ 140737488351232) : RdB W (some ⟨g, 0, none⟩) xs :=
  ⟨hl, hb, fun _ => ⟨_, 0, rfl, fun j hj => by rw [Nat.zero_add]; exact h.cell j hj⟩⟩
theorem Buf.below {W W' : World} {g : Nat} {xs : List Int} (h : Buf W g xs) {B : Nat} (hb : Below B W W') (hg : g < B) : Buf W' g xs := by
  obtain ⟨cur, h, r⟩ := h.at'
  exact ⟨⟨cur, (hb.block g hg).trans h, r⟩⟩
theorem Buf.later {W W' : World} {g : Nat} {xs : List Int} (h : Buf W g xs) (hb : Below W.heap.size W W') : Buf W' g xs := h.below hb h.lt
theorem Buf.other {W : World} {g g' : Nat} {xs : List Int} (h : Buf W g xs) (hne : g ≠ g') (j : Nat) (v : Value) : Buf (W.setCell ⟨g', j, none⟩ v) g xs := by
  obtain ⟨cur, h, r⟩ := h.at'
  exact ⟨⟨cur, by rw [Below.heap_setCell _ _ _ _ (by simpa using hne)]; exact h, r⟩⟩
theorem Buf.set {W : World} {g : Nat} {xs : List Int} (h : Buf W g xs) (i : Nat) (y : Int) (_hi : i < xs.length) : Buf (W.setCell ⟨g, i, none⟩ (.int .u8 y)) g (xs.set i y) := by
  obtain ⟨cur, h, hs, hc⟩ := h.at'
  refine ⟨⟨cur.setIfInBounds i (.int .u8 y), ?_, by simpa using hs, fun j hj => ?_⟩⟩
  · show (W.heap.modify g _)[g]? = _
    rw [Array.getElem?_modify, if_pos rfl, h]
    rfl
  · rw [List.length_set] at hj
    have hj2 := hc j hj
    by_cases e : i = j
    · subst e
      rw [Array.getElem?_setIfInBounds_self_of_lt (by omega)]
      simp [List.getD_eq_getElem?_getD, hj]
    · rw [Array.getElem?_setIfInBounds_ne (by omega), hj2]
      simp [List.getD_eq_getElem?_getD, List.getElem?_set_ne e]
theorem Own.buf {W : World} {base : Nat} {v : Value} {xs : List Int} (h : Own W base v xs) (h0 : 0 < xs.length) : ∃ g c, v = .slice (some ⟨g, 0, none⟩) xs.length c ∧ base ≤ g ∧ xs.length ≤ c ∧ Buf W g xs := by
  rcases h.2 with ⟨_, e⟩ | ⟨g, cap, cur, e, hbg, hg, hnc, hm, hcs, ht⟩
  · omega
  · rw [Nat.mul_one] at hcs ht
    refine ⟨g, cap, e, hbg, hnc, ⟨⟨cur, hg, by omega, fun j hj => ?_⟩⟩⟩
    have e2 : cur[j]? = (nb xs)[j]? := by
      rw [← ht, List.getElem?_take_of_lt hj, Array.getElem?_toList]
    rw [e2]
    simp [nb, hj, List.getD_eq_getElem?_getD]
theorem Own.bufAt {W : World} {base g n c : Nat} {xs : List Int} (h : Own W base (.slice (some ⟨g, 0, none⟩) n c) xs) : Buf W g xs := by
  rcases h.2 with ⟨e, _⟩ | ⟨g, cap, cur, e, hbg, hg, hnc, hm, hcs, ht⟩
  · cases e
  · cases e
    rw [Nat.mul_one] at hcs ht
    refine ⟨⟨cur, hg, by omega, fun j hj => ?_⟩⟩
    have e2 : cur[j]? = (nb xs)[j]? := by
      rw [← ht, List.getElem?_take_of_lt hj, Array.getElem?_toList]
    rw [e2]
    simp [nb, hj, List.getD_eq_getElem?_getD]
theorem nb_zeros (n : Nat) : (madeCells (Value.int .u8 0).cells (n * 1)).toList = nb (List.replicate n 0) := by
  rw [Nat.mul_one]
  apply List.ext_getElem
  · simp [nb, madeCells]
  · intro i h1 h2
    simp [nb, madeCells, Value.cells, Nat.mod_one]
/-- make([]byte, n) -/
theorem make_own (k : IntKind) (n : Nat) (hn : n ≤ 140737488351232) (w : World) :
    ∃ w', (Instr.makeSlice 23 (.int k (n : Int)) (.int k (n : Int))).run Tryd.prog w = .ok (.slice (some ⟨w.heap.size, 0, none⟩) n n) w' ∧ Own w' w.heap.size (.slice (some ⟨w.heap.size, 0, none⟩) n n) (List.replicate n 0) ∧ Below w.heap.size w w' := by
  obtain ⟨i0, hi, hz0, hz1, hz2⟩ := info_parts info5
  obtain ⟨w', h1, h2, h3⟩ := run_make_full (P := Tryd.prog) w w.heap.size 23 5 i0 (.int .u8 0) 1 Tryd.underlying23 hi hz0 hz1 k k n (by rw [hz2]; omega) (by unfold maxLen; omega) (Nat.le_refl _)
  refine ⟨w', h1, ?_, (Below.refl _ _).grown h3 (Nat.le_refl _) (fun k hk => by cases hk)⟩
  unfold Own
  rw [List.length_replicate, ← nb_zeros]
  exact h2
/-- make([]byte, 0, n) -/
theorem make_none (k k2 : IntKind) (n : Nat) (hn : n ≤ 140737488351232) (w : World) :
    ∃ w', (Instr.makeSlice 23 (.int k 0) (.int k2 (n : Int))).run Tryd.prog w = .ok (.slice (some ⟨w.heap.size, 0, none⟩) 0 n) w' ∧ Own w' w.heap.size (.slice (some ⟨w.heap.size, 0, none⟩) 0 n) [] ∧ Below w.heap.size w w' := by
  obtain ⟨i0, hi, hz0, hz1, hz2⟩ := info_parts info5
  obtain ⟨w', h1, h2, h3⟩ := run_make_own (P := Tryd.prog) w w.heap.size 23 5 i0 (.int .u8 0) 1 Tryd.underlying23 hi hz0 hz1 k k2 n (by rw [hz2]; omega) (by unfold maxLen; omega) (Nat.le_refl _)
  exact ⟨w', h1, h2, (Below.refl _ _).grown h3 (Nat.le_refl _) (fun k hk => by cases hk)⟩
end Go.Proofs.YtbmkjjoehancbaaDoor.ACrc
