/- The contract of crc.made: it returns the table of the steps of all bytes. -/
import Derived.Test.YtbmkjjoehancbaaDoorProg
import Derived.Test.YtbmkjjoehancbaaDoorAMath
import Derived.WalkKit
import Derived.Laws.ResultCell
import Derived.Deep.LoopGhost
import Derived.Deep.WholeRow
import Derived.Laws.BitsAllLaws
namespace Go.Proofs.YtbmkjjoehancbaaDoor.ACrc
open Go.RowKit Go.Proofs.YtbmkjjoehancbaaDoor.Crc

/-- the table after its first k entries -/
def cellsTo (k : Nat) : Array Value := (Array.range 256).map fun i => .int .u32 (if i < k then (tb i : Int) else 0)
theorem cellsTo_size (k : Nat) : (cellsTo k).size = 256 := by simp [cellsTo]
theorem cellsTo_zero : Tryd.zeroCells42 = cellsTo 0 := by kernel_rfl
theorem cellsTo_at (k i : Nat) (hi : i < 256) : (cellsTo k)[i]? = some (.int .u32 (if i < k then (tb i : Int) else 0)) := by
  simp [cellsTo, hi]
theorem cellsTo_succ (k : Nat) (hk : k < 256) : (cellsTo k).setIfInBounds k (.int .u32 (tb k : Int)) = cellsTo (k + 1) := by
  apply Array.ext_getElem?
  intro i
  rw [Array.getElem?_setIfInBounds, cellsTo_size]
  by_cases h : k = i
  · subst h
    simp [hk, cellsTo]
  · by_cases hi : i < 256
    · rw [if_neg h, cellsTo_at _ _ hi, cellsTo_at _ _ hi]
      have : (i < k) = (i < k + 1) := by simp; omega
      simp only [this]
    · rw [if_neg h, Array.getElem?_eq_none (by rw [cellsTo_size]; omega), Array.getElem?_eq_none (by rw [cellsTo_size]; omega)]
theorem cellsTo_one (k : Nat) : (cellsTo k).all (·.oneCell') = true := by
  rw [Array.all_eq_true]
  intro i hi
  have h := cellsTo_at k i (by rw [cellsTo_size] at hi; exact hi)
  rw [Array.getElem?_eq_getElem hi] at h
  rw [Option.some.inj h]
  rfl
attribute [local irreducible] cellsTo
theorem info42 : (Tryd.prog.info? 42).map (·.size) = some 256 := by kernel_rfl
theorem zc42 : ∀ (w : World), (zeroValue 42).run Tryd.prog w = .ok (.agg (cellsTo 0)) w := fun w => by rw [← cellsTo_zero]; exact Tryd.zeroValue42 w

/-- one step of a bit, in the walk's words -/
theorem sb_walk_odd (n : Nat) (hn : n < 4294967296) (h : (bits .and .u32 (n : Int) 1 == 1) = true) : bits .xor .u32 ((n : Int) / 2) 2197175160 = (sb n : Int) := by
  have h1 := u32_and_nat n 1 hn (by decide)
  rw [show ((1 : Nat) : Int) = 1 from rfl] at h1
  rw [h1, nat_mask1] at h
  have h2 : n % 2 = 1 := by have := beq_iff_eq.1 h; omega
  have h3 := u32_xor_nat (n / 2) 2197175160 (by omega) (by decide)
  rw [show ((n / 2 : Nat) : Int) = (n : Int) / 2 from by omega] at h3
  rw [show ((2197175160 : Nat) : Int) = 2197175160 from rfl] at h3
  rw [h3]
  unfold sb
  rw [if_pos h2]
theorem sb_walk_even (n : Nat) (hn : n < 4294967296) (h : (bits .and .u32 (n : Int) 1 == 1) = false) : (n : Int) / 2 = (sb n : Int) := by
  have h1 := u32_and_nat n 1 hn (by decide)
  rw [show ((1 : Nat) : Int) = 1 from rfl] at h1
  rw [h1, nat_mask1] at h
  have h2 : ¬ n % 2 = 1 := by have := beq_eq_false_iff_ne.1 h; omega
  unfold sb
  rw [if_neg h2]
  omega

theorem sbs_step (k n : Nat) : sbs (k + 1) n = sb (sbs k n) := sbs_succ k n

set_option maxHeartbeats 1000000 in
set_option maxRecDepth 100000 in
theorem made_any (w : World) :
    Calls Tryd.prog 21 #[] w fun e w' => e = .returned (.agg (cellsTo 256)) ∧ w' = w.alloc (.cells (cellsTo 256) 42) := by
  have hz := zc42
  go_enter Tryd.func21, Tryd.ntmps21
  go_wp2
  go_loopg [4] 256 (fun g s4 wx => ∃ i : Nat, i + g = 256 ∧ s4 = .int .i64 i ∧ wx = w.alloc (.cells (cellsTo i) 42))
  case atStart => exact ⟨0, by omega, rfl, rfl⟩
  case round =>
    obtain ⟨i, hig, rfl, rfl⟩ := hrel
    cases gk with
    | zero =>
      obtain rfl : i = 256 := by omega
      have hsc := run_storeCells_new (P := Tryd.prog) w 42 (cellsTo 256) (cellsTo 256) (by rw [cellsTo_size]; exact info42) rfl (cellsTo_one _)
      have hsz := cellsTo_size 256
      go_wp2
      refine wp_load_row 42 (.tmp 0) rfl w.heap.size rfl 42 (cellsTo 256) (0, 0) _ (heap_alloc_last w _) Tryd.underlying42 rfl (by rw [cellsTo_size]; exact info42) ?_
      go_wp2
      (try simp only [Exit.inBlock, Exit.then])
      refine bodyPost_ret (v := .agg (cellsTo 256)) ?_ rfl ⟨rfl, rfl⟩
      exact results_cell_row rfl _ _ w.heap.size 42 (cellsTo 256) (0, 0) _ rfl (heap_alloc_last w _) Tryd.underlying42 rfl (by rw [cellsTo_size]; exact info42)
    | succ g =>
      have hi : i < 256 := by omega
      have hiz : (i : Int) < 256 := by omega
      have hcell : (cellsTo i)[i]? = some (.int .u32 0) := by rw [cellsTo_at _ _ hi, if_neg (by omega)]
      go_wp2
      go_loopg [2, 9] 8 (fun g s2 s9 wx => ∃ j : Nat, j + g = 8 ∧ s9 = .int .i64 j ∧ s2 = .int .u32 (sbs j i : Int) ∧ wx = w.alloc (.cells (cellsTo i) 42))
      case atStart => exact ⟨0, by omega, rfl, rfl, rfl⟩
      case round =>
        obtain ⟨j, hjg, rfl, rfl, rfl⟩ := hrel
        cases gk with
        | zero =>
          obtain rfl : j = 8 := by omega
          go_wp2
          go_roundg g
          case measure => omega
          case rel => exact ⟨i + 1, by omega, by first | rfl | simp, by rw [show sbs 8 i = tb i from rfl, cellsTo_succ i hi]⟩
        | succ g1 =>
          have hlt := sbs_lt j i (by omega)
          have hs := sbs_step j i
          have hj : (j : Int) < 8 := by omega
          generalize sbs j i = n at *
          by_cases hb : (bits .and .u32 (n : Int) 1 == 1) = true
          · have hx := sb_walk_odd n hlt hb
            go_wp2
            go_roundg g1
            case measure => omega
            case rel => exact ⟨j + 1, by omega, by first | rfl | simp, by rw [hs], rfl⟩
          · have hb' : (bits .and .u32 (n : Int) 1 == 1) = false := by simpa using hb
            clear hb
            have hx := sb_walk_even n hlt hb'
            go_wp2
            go_roundg g1
            case measure => omega
            case rel => exact ⟨j + 1, by omega, by first | rfl | simp, by rw [hs], rfl⟩
end Go.Proofs.YtbmkjjoehancbaaDoor.ACrc
