/- The contracts of crc.Update and crc.Sum. -/
import Derived.Test.YtbmkjjoehancbaaDoorAMade
import Derived.Lib.Hide
namespace Go.Proofs.YtbmkjjoehancbaaDoor.ACrc
open Go.RowKit Go.Proofs.YtbmkjjoehancbaaDoor.Crc

/-- a slice of bytes with the address A reads as zs -/
structure RdB (w : World) (A : Option Addr) (zs : List Int) : Prop where
  len : zs.length ≤ 140737488351232
  bs : Bs zs
  cells : 0 < zs.length → ∃ b off, A = some ⟨b, off, none⟩ ∧ ∀ j, j < zs.length → w.cell? ⟨b, off + j, none⟩ = some (.int .u8 (zs.getD j 0))
theorem RdB.below {w w1 : World} {A : Option Addr} {zs : List Int} (h : RdB w A zs) {B : Nat} (hb : Below B w w1) (hB : w.heap.size ≤ B) : RdB w1 A zs :=
  ⟨h.len, h.bs, fun hn => by
    obtain ⟨b, off, e, hc⟩ := h.cells hn
    refine ⟨b, off, e, fun j hj => ?_⟩
    have := hc j hj
    exact (hb.cell (p := ⟨b, off + j, none⟩) (Nat.lt_of_lt_of_le (World.block_lt_of_cell? w _ this) hB)).trans this⟩

attribute [local irreducible] cellsTo upd update sum rstep tb sbs
theorem not_u32 (n : Nat) (hn : n < 4294967296) : (4294967295 : Int) - n = ((4294967295 - n : Nat) : Int) := by omega
theorem tb_lt (i : Nat) (h : i < 256) : tb i < 4294967296 := by
  unfold tb
  exact sbs_lt 8 i (by omega)
theorem xor_lt256 (a b : Nat) (ha : a < 256) (hb : b < 256) : a ^^^ b < 256 := Nat.xor_lt_two_pow (n := 8) ha hb
theorem upd_snoc (n : Nat) (l : List Int) (x : Int) : upd n (l ++ [x]) = rstep (upd n l) x.toNat := by rw [upd_append]; simp [upd]
theorem upd_nil (n : Nat) : upd n [] = n := by simp [upd]

theorem getD_at (zs : List Int) (k : Nat) (h : k < zs.length) : zs.getD k 0 = zs[k] := by simp [List.getD_eq_getElem?_getD, h]
theorem ones_xor (n : Nat) (hn : n < 4294967296) : 4294967295 ^^^ n = 4294967295 - n := by
  apply Nat.eq_of_testBit_eq
  intro i
  rw [Nat.testBit_xor, show 4294967295 - n = 2 ^ 32 - (n + 1) from by omega, Nat.testBit_two_pow_sub_succ (by omega), show (4294967295 : Nat) = 2 ^ 32 - 1 from rfl, Nat.testBit_two_pow_sub_one]
  by_cases h : i < 32
  · simp [h]
  · have : n.testBit i = false := Nat.testBit_lt_two_pow (Nat.lt_of_lt_of_le hn (Nat.pow_le_pow_right (n := 2) (by decide) (show 32 ≤ i by omega)))
    simp [h, this]
/-- all bits inverted, in the walk's words -/
theorem not_walk (n : Nat) (hn : n < 4294967296) : bits .xor .u32 IntKind.u32.max (n : Int) = ((4294967295 - n : Nat) : Int) := by
  have h := u32_xor_nat 4294967295 n (by decide) hn
  rw [ones_xor n hn] at h
  exact h
/-- a row of the table, in the walk's words -/
theorem row_walk (n x : Nat) (hx : x < 256) : bits .xor .u8 ((n : Int) % 256) (x : Int) = ((n % 256 ^^^ x : Nat) : Int) := by
  have h := u8_xor_nat (n % 256) x (by omega) hx
  rw [show ((n % 256 : Nat) : Int) = (n : Int) % 256 from by omega] at h
  exact h
theorem step_walk (n x : Nat) (hn : n < 4294967296) (hx : x < 256) : bits .xor .u32 (tb (n % 256 ^^^ x) : Int) ((n : Int) / 256) = (rstep n x : Int) := by
  have h := u32_xor_nat (tb (n % 256 ^^^ x)) (n / 256) (tb_lt _ (xor_lt256 _ _ (by omega) hx)) (by omega)
  rw [show ((n / 256 : Nat) : Int) = (n : Int) / 256 from by omega] at h
  rw [h, rstep_table n x hx]
theorem stored_table (w : World) : (storeCells ⟨w.heap.size + 1, 0, none⟩ (cellsTo 256).toList).run Tryd.prog ((w.alloc (.cells (cellsTo 256) 42)).alloc (.cells (cellsTo 0) 42)) = .ok () ((w.alloc (.cells (cellsTo 256) 42)).alloc (.cells (cellsTo 256) 42)) := by
  have hsc := run_storeCells_new (P := Tryd.prog) (w.alloc (.cells (cellsTo 256) 42)) 42 (cellsTo 0) (cellsTo 256) (by rw [cellsTo_size]; exact info42) (by rw [cellsTo_size, cellsTo_size]) (cellsTo_one _)
  rw [show (w.alloc (.cells (cellsTo 256) 42)).heap.size = w.heap.size + 1 from by simp] at hsc
  exact hsc

set_option maxHeartbeats 1000000 in
set_option maxRecDepth 100000 in
theorem update_any (s : Nat) (hs : s < 4294967296) (A : Option Addr) (zs : List Int) (c : Nat) (w : World) (hr : RdB w A zs) :
    Calls Tryd.prog 11 #[.int .u32 (s : Int), .slice A zs.length c] w fun e w' => e = .returned (.int .u32 (update s zs : Int)) ∧ Below w.heap.size w w' := by
  have hlen : zs.length ≤ 140737488351232 := hr.len
  have hsc := stored_table w
  have hsz := cellsTo_size 256
  have hz := zc42
  have hB : Below w.heap.size w ((w.alloc (.cells (cellsTo 256) 42)).alloc (.cells (cellsTo 256) 42)) := ((Below.refl _ _).alloc (Nat.le_refl _) _).alloc (by simp) _
  go_enter Tryd.func11, Tryd.ntmps11
  go_wp2_with (go_at_call 21; refine (made_any _).mono ?_; rintro e w' ⟨rfl, rfl⟩)
  go_loop [6, 14] (fun n i => ∃ k : Nat, k ≤ zs.length ∧ i = .int .i64 k ∧ n = .int .u32 (upd (4294967295 - s) (zs.take k) : Int)) (fun _ i => zs.length - (intOf i).toNat)
  case atStart => exact ⟨0, Nat.zero_le _, rfl, by rw [List.take_zero, upd_nil, not_walk s hs]⟩
  case round =>
    obtain ⟨k, hk, rfl, rfl⟩ := hrel
    have hn := upd_lt (zs.take k) (4294967295 - s) (by omega) (fun y hy => hr.bs y (List.mem_of_mem_take hy))
    by_cases hlt : k < zs.length
    · obtain ⟨b, off, rfl, hc⟩ := hr.cells (by omega)
      have hcx := hB.cell (p := ⟨b, off + k, none⟩) (World.block_lt_of_cell? w _ (hc k hlt))
      rw [hc k hlt] at hcx
      have hxb := hr.bs (zs.getD k 0) (by rw [getD_at _ _ hlt]; exact List.getElem_mem hlt)
      have hsn : zs.take (k + 1) = zs.take k ++ [zs.getD k 0] := by rw [List.take_succ_eq_append_getElem hlt, getD_at _ _ hlt]
      have hup := upd_snoc (4294967295 - s) (zs.take k) (zs.getD k 0)
      rw [← hsn] at hup
      have HU := Lib.hid hup
      clear hup hsn hc
      generalize zs.getD k 0 = xi at *
      obtain ⟨x, rfl⟩ := Int.eq_ofNat_of_zero_le hxb.1
      have hx : x < 256 := by omega
      generalize upd (4294967295 - s) (zs.take k) = n at *
      have hrow := row_walk n x hx
      have hst := step_walk n x hn hx
      have hcell : (cellsTo 256)[n % 256 ^^^ x]? = some (.int .u32 (tb (n % 256 ^^^ x) : Int)) := by rw [cellsTo_at _ _ (xor_lt256 _ _ (by omega) hx), if_pos (xor_lt256 _ _ (by omega) hx)]
      have hlt256 := xor_lt256 (n % 256) x (by omega) hx
      clear hsc hz hB hr hxb hsz
      go_wp2
      go_round
      case rel => exact ⟨k + 1, by omega, by go_num, by rw [HU.out, Int.toNat_natCast]⟩
      case measure => simp [intOf]; omega
    · obtain rfl : k = zs.length := by omega
      rw [List.take_length] at *
      have hnw := not_walk _ hn
      have HE := Lib.hid (show bits .xor .u32 IntKind.u32.max (upd (4294967295 - s) zs : Int) = (update s zs : Int) by rw [update_eq, hnw])
      clear hnw
      go_wp2
      go_ret
      exact ⟨by first | rfl | (rw [HE.out]; rfl), hB⟩

set_option maxHeartbeats 1000000 in
set_option maxRecDepth 100000 in
theorem sum_any (A : Option Addr) (zs : List Int) (c : Nat) (w : World) (hr : RdB w A zs) :
    Calls Tryd.prog 9 #[.slice A zs.length c] w fun e w' => e = .returned (.int .u32 (sum zs : Int)) ∧ Below w.heap.size w w' := by
  have HS := Lib.hid (show sum zs = update 0 zs by unfold sum; rfl)
  go_enter Tryd.func9, Tryd.ntmps9
  go_wp2_with (go_at_call 11; refine (update_any 0 (by decide) A zs c _ hr).mono ?_; rintro e w' ⟨rfl, hB⟩)
  go_ret
  exact ⟨by rw [HS.out]; rfl, hB⟩
end Go.Proofs.YtbmkjjoehancbaaDoor.ACrc
