/- The contracts of the reference's Text and Parse. -/
import Derived.Test.YtbmkjjoehancbaaDoorARef
namespace Go.Proofs.YtbmkjjoehancbaaDoor.ACrc
open Go.RowKit Go.Proofs.YtbmkjjoehancbaaDoor.Crc

theorem ext_dg (d : Nat) (h : d < 16) : (⟨#[48, 49, 50, 51, 52, 53, 54, 55, 56, 57, 97, 98, 99, 100, 101, 102]⟩ : ByteArray).extract d (d + 1) = strOfNums [dg d] := by
  rcases (by omega : d = 0 ∨ d = 1 ∨ d = 2 ∨ d = 3 ∨ d = 4 ∨ d = 5 ∨ d = 6 ∨ d = 7 ∨ d = 8 ∨ d = 9 ∨ d = 10 ∨ d = 11 ∨ d = 12 ∨ d = 13 ∨ d = 14 ∨ d = 15) with rfl | rfl | rfl | rfl | rfl | rfl | rfl | rfl | rfl | rfl | rfl | rfl | rfl | rfl | rfl | rfl <;> decide
theorem str_cons (x : Int) (l : List Int) : strOfNums [x] ++ strOfNums l = strOfNums (x :: l) := by
  apply ByteArray.ext
  rw [ByteArray.data_append]
  simp [strOfNums]

set_option maxHeartbeats 1000000 in
set_option maxRecDepth 100000 in
theorem rtext_any (n : Nat) (hn : n < 4294967296) (w : World) :
    Calls Tryd.prog 18 #[.int .u32 (n : Int)] w fun e w' => e = .returned (.string (text n)) ∧ w = w' := by
  have HT := Lib.hid (show text n = strOfNums (hexL n 8) from rfl)
  go_enter Tryd.func18, Tryd.ntmps18
  go_wp2
  go_loop [0, 3, 4] (fun u o i => ∃ j : Nat, j ≤ 8 ∧ i = .int .i64 j ∧ u = .int .u32 ((n / 16 ^ j : Nat) : Int) ∧ o = .string (strOfNums (hexL n j))) (fun _ _ i => 8 - (intOf i).toNat)
  case atStart => exact ⟨0, by omega, rfl, by rw [Nat.pow_zero, Nat.div_one], rfl⟩
  case round =>
    obtain ⟨j, hj, rfl, rfl, rfl⟩ := hrel
    by_cases h8 : j < 8
    · have hu : n / 16 ^ j < 4294967296 := Nat.lt_of_le_of_lt (Nat.div_le_self _ _) hn
      have HSP := Lib.hid (pow16_split n j)
      have hext := ext_dg (n / 16 ^ j % 16) (by omega)
      have HC := Lib.hid (show strOfNums [dg (n / 16 ^ j % 16)] ++ strOfNums (hexL n j) = strOfNums (hexL n (j + 1)) by rw [str_cons]; rfl)
      have hle : (strOfNums [dg (n / 16 ^ j % 16)]).size + (strOfNums (hexL n j)).size ≤ 9223372036854775807 := by
        rw [strOfNums_size, strOfNums_size, hexL_length]
        simp
        omega
      generalize strOfNums [dg (n / 16 ^ j % 16)] = X at *
      generalize strOfNums (hexL n j) = Y at *
      generalize n / 16 ^ j = u at *
      have hm : u % 16 < 16 := by omega
      have hmm : (u : Int) % 16 = ((u % 16 : Nat) : Int) := by omega
      generalize u % 16 = d at *
      go_wp2
      go_round
      case rel => exact ⟨j + 1, by omega, by go_num, by rw [HSP.out]; go_num, by rw [HC.out]⟩
      case measure => simp [intOf]; omega
    · obtain rfl : j = 8 := by omega
      go_wp2
      go_ret
      exact ⟨by rw [HT.out]; rfl, rfl⟩
end Go.Proofs.YtbmkjjoehancbaaDoor.ACrc
