/- The contracts of strconv.FormatUint at base 16, crc.Text. -/
import Derived.Test.YtbmkjjoehancbaaDoorAOp
import Derived.Test.YtbmkjjoehancbaaDoorShelf
import Derived.Laws.BytesArg
namespace Go.Proofs.YtbmkjjoehancbaaDoor.ACrc
open Go.RowKit Go.Proofs.YtbmkjjoehancbaaDoor.Crc

theorem bruijn16 : IntKind.u64.wrap (bits BinOp.and IntKind.u64 16 (IntKind.u64.wrap (-16)) * 285870213051353865) / 288230376151711744 = 15 := by kernel_rfl

set_option maxHeartbeats 1000000 in
set_option maxRecDepth 100000 in
theorem trailing64 (w : World) (hdb : w.cell? ⟨5, 15, none⟩ = some (.int .u8 4)) :
    Calls Tryd.prog 65 #[.int .u64 16] w fun e w' => e = .returned (.int .i64 4) ∧ w = w' := by
  have h16 := bruijn16
  go_enter Tryd.func65, Tryd.ntmps65
  go_wp2
  go_ret
  exact ⟨rfl, rfl⟩

set_option maxHeartbeats 1000000 in
set_option maxRecDepth 100000 in
theorem trailing (w : World) (hdb : w.cell? ⟨5, 15, none⟩ = some (.int .u8 4)) :
    Calls Tryd.prog 55 #[.int .u64 16] w fun e w' => e = .returned (.int .i64 4) ∧ w = w' := by
  go_enter Tryd.func55, Tryd.ntmps55
  go_wp2_with (go_at_call 65; refine (trailing64 _ hdb).mono ?_; rintro e w' ⟨rfl, rfl⟩)
  go_ret
  exact ⟨rfl, rfl⟩

set_option maxHeartbeats 1000000 in
set_option maxRecDepth 100000 in
theorem power16 (w : World) : Calls Tryd.prog 54 #[.int .i64 16] w fun e w' => e = .returned (.bool true) ∧ w = w' := by
  have h : (bits BinOp.and IntKind.i64 16 15 == 0) = true := by decide +kernel
  go_enter Tryd.func54, Tryd.ntmps54
  go_wp2
  go_ret
  exact ⟨rfl, rfl⟩

/-- a digit -/
def dg (d : Nat) : Int := if d < 10 then 48 + d else 87 + d
theorem dg_at (d : Nat) (h : d < 16) :
    ∀ hb, (((⟨#[48, 49, 50, 51, 52, 53, 54, 55, 56, 57, 97, 98, 99, 100, 101, 102, 103, 104, 105, 106, 107, 108, 109, 110, 111, 112, 113, 114, 115, 116, 117, 118, 119, 120, 121, 122]⟩ : ByteArray)[d]'hb).toNat : Int) = dg d := by
  intro hb
  rcases (by omega : d = 0 ∨ d = 1 ∨ d = 2 ∨ d = 3 ∨ d = 4 ∨ d = 5 ∨ d = 6 ∨ d = 7 ∨ d = 8 ∨ d = 9 ∨ d = 10 ∨ d = 11 ∨ d = 12 ∨ d = 13 ∨ d = 14 ∨ d = 15) with rfl | rfl | rfl | rfl | rfl | rfl | rfl | rfl | rfl | rfl | rfl | rfl | rfl | rfl | rfl | rfl <;> rfl
/-- the array after k digits of n -/
def hx (n : Nat) : Nat → Array Value
  | 0 => Array.replicate 65 (.int .u8 0)
  | k + 1 => (hx n k).setIfInBounds (64 - k) (.int .u8 (dg (n / 16 ^ k % 16)))
theorem hx_size (n k : Nat) : (hx n k).size = 65 := by
  induction k with
  | zero => simp [hx]
  | succ k ih => simp [hx, ih]
/-- the last k digits of n -/
def hexL (n : Nat) : Nat → List Int
  | 0 => []
  | k + 1 => dg (n / 16 ^ k % 16) :: hexL n k
theorem hexL_length (n k : Nat) : (hexL n k).length = k := by
  induction k with
  | zero => rfl
  | succ k ih => simp [hexL, ih]
theorem hx_at (n : Nat) : ∀ k, k ≤ 64 → ∀ j, j < k → (hx n k)[65 - k + j]? = some (.int .u8 ((hexL n k).getD j 0)) := by
  intro k
  induction k with
  | zero => intro _ j hj; omega
  | succ k ih =>
    intro hk j hj
    simp only [hx, hexL]
    rw [Array.getElem?_setIfInBounds]
    cases j with
    | zero =>
      rw [if_pos (by omega), hx_size, if_pos (by omega)]
      simp
    | succ j =>
      rw [if_neg (by omega), show 65 - (k + 1) + (j + 1) = 65 - k + j from by omega, ih (by omega) j (by omega)]
      simp
theorem zeroCells87_eq : Tryd.zeroCells87 = hx 0 0 := by kernel_rfl
theorem zc87 (n : Nat) : ∀ w, (zeroValue 87).run Tryd.prog w = .ok (.agg (hx n 0)) w := fun w => by
  rw [show hx n 0 = hx 0 0 from rfl, ← zeroCells87_eq]; exact Tryd.zeroValue87 w

theorem and15 (u : Nat) (hu : u < 4294967296) : bits .and .u64 (u : Int) 15 = ((u % 16 : Nat) : Int) := by
  have h := u64_and_nat u 15 (by omega) (by decide)
  rw [nat_mask4] at h
  exact h
theorem pow16_split (n k : Nat) : n / 16 ^ (k + 1) = n / 16 ^ k / 16 := by rw [Nat.pow_succ, Nat.div_div_eq_div_mul]
theorem string_walk (w : World) (n k : Nat) (hk : k ≤ 64) : ∀ c, (convert 23 9 (.slice (some ⟨w.heap.size, 65 - k, none⟩) k c)).run Tryd.prog (w.alloc (.cells (hx n k) 87)) = .ok (.string (strOfNums (hexL n k))) (w.alloc (.cells (hx n k) 87)) := fun c =>
  run_convert_bytes_arg (P := Tryd.prog) _ 23 5 Tryd.underlying23 Tryd.underlying5 w.heap.size (65 - k) k c (hexL n k) (hexL_length n k) (fun i hi => by rw [World.cell?_alloc_at _ _ _ _ rfl, hx_at n k hk i hi]) 9 Tryd.underlying9

theorem hx_step (n j p : Nat) (h : j + p = 64) : (hx n j).setIfInBounds p (.int .u8 (dg (n / 16 ^ j % 16))) = hx n (j + 1) := by
  rw [hx, show 64 - j = p from by omega]
theorem hx_cell (n j p : Nat) (h : p < 65) : ∃ v, (hx n j)[p]? = some v := ⟨_, Array.getElem?_eq_getElem (by rw [hx_size]; exact h)⟩
theorem lt_pow7 (n j : Nat) (hn : n < 4294967296) (hj : j ≤ 7) (h : 16 ≤ n / 16 ^ j) : j + 1 ≤ 7 := by
  rcases Nat.lt_or_ge j 7 with h7 | h7
  · omega
  · obtain rfl : j = 7 := by omega
    have : n / 16 ^ 7 < 16 := Nat.div_lt_of_lt_mul (by simpa using hn)
    omega
theorem lt_pow_succ (n j : Nat) (h : n / 16 ^ j < 16) : n < 16 ^ (j + 1) := by
  rw [Nat.pow_succ]
  have h2 := (Nat.div_lt_iff_lt_mul (Nat.pow_pos (a := 16) (n := j) (by decide))).1 h
  rwa [Nat.mul_comm] at h2
theorem array87 : Tryd.prog.arrayLen 87 = 65 ∧ Tryd.prog.elem 87 = 5 := ⟨by kernel_rfl, by kernel_rfl⟩
theorem slice_walk (g p j : Nat) (hp : j + p = 64) (W : World) : (Instr.sliceAt 87 (.pointer (some ⟨g, 0, none⟩)) (some (.int .i64 (p : Int))) none none).run Tryd.prog W = .ok (.slice (some ⟨g, p, none⟩) (j + 1) (j + 1)) W := by
  rw [run_sliceAt_array_l W 87 ⟨g, 0, none⟩ (by rw [array87.1, array87.2]; exact Tryd.underlying87) .i64 (p : Int) (by omega) (by rw [array87.1]; omega)]
  rw [array87.1, array87.2, Tryd.sizeOf5, Result.andThen_ok, slicedAt, Int.toNat_natCast, if_neg (by omega), Nat.mul_one]
  have e : (⟨g, 0, none⟩ : Addr).add p = ⟨g, p, none⟩ := by unfold Addr.add; split <;> simp_all
  rw [e, show 65 - p = j + 1 from by omega]
attribute [local irreducible] hx hexL dg
set_option maxHeartbeats 4000000 in
set_option maxRecDepth 100000 in
theorem format16 (n : Nat) (hn : n < 4294967296) (w : World) (hdb : w.cell? ⟨5, 15, none⟩ = some (.int .u8 4)) :
    Calls Tryd.prog 43 #[.slice none 0 0, .int .u64 (n : Int), .int .i64 16, .bool false, .bool false] w fun e w' =>
      (∃ k, 1 ≤ k ∧ k ≤ 8 ∧ n < 16 ^ k ∧ e = .returned (.tuple #[.slice none 0 0, .string (strOfNums (hexL n k))])) ∧ Below w.heap.size w w' := by
  have hz := zc87 n
  go_enter Tryd.func43, Tryd.ntmps43
  go_wp2_with (first | (go_at_call 54; refine (power16 _).mono ?_; rintro e w' ⟨rfl, rfl⟩) | (go_at_call 55; refine (trailing _ (by rw [World.cell?_alloc_past _ _ _ (World.block_lt_of_cell? w _ hdb)]; exact hdb)).mono ?_; rintro e w' ⟨rfl, rfl⟩))
  go_loopw [1, 13] (fun u i wr => ∃ j p : Nat, j + p = 64 ∧ j ≤ 7 ∧ u = .int .u64 ((n / 16 ^ j : Nat) : Int) ∧ i = .int .i64 ((p : Int) + 1) ∧ wr = w.alloc (.cells (hx n j) 87)) (fun u _ _ => (intOf u).toNat)
  case atStart => exact ⟨0, 64, rfl, by omega, by rw [Nat.pow_zero, Nat.div_one], rfl, rfl⟩
  case round =>
    obtain ⟨j, p, hjp, hj, rfl, rfl, rfl⟩ := hrel
    have hu : n / 16 ^ j < 4294967296 := Nat.lt_of_le_of_lt (Nat.div_le_self _ _) hn
    have HST := Lib.hid (hx_step n j p hjp)
    have HSP := Lib.hid (pow16_split n j)
    obtain ⟨cv, hcv⟩ := hx_cell n j p (by omega)
    have HL := Lib.hid (lt_pow7 n j hn hj)
    have HM := Lib.hid (lt_pow_succ n j)
    have HW := Lib.hid (string_walk w n (j + 1) (by omega))
    rw [show 65 - (j + 1) = p from by omega] at HW
    have hsl := slice_walk w.heap.size p j hjp
    clear hz
    generalize hug : n / 16 ^ j = u at *
    have hidx := dg_at (u % 16) (by omega)
    have ha := and15 u hu
    by_cases h16 : 16 ≤ u
    · have hge : decide ((u : Int) ≥ 16) = true := by simp; omega
      go_wp2
      go_roundw
      case rel => exact ⟨j + 1, p - 1, by omega, HL.out h16, by rw [HSP.out]; go_num, by go_num, by rw [← HST.out]⟩
      case measure => simp [intOf]; omega
    · have hge : decide ((u : Int) ≥ 16) = false := by simp; omega
      have hmod : u % 16 = u := by omega
      rw [hmod] at hidx
      have HU := Lib.hid hmod
      clear hmod ha
      go_wp2
      rw [show dg u = dg (u % 16) from by rw [HU.out], HST.out]
      have hw := HW.out (j + 1)
      rw [hw, Result.andThen_ok, Oper.upon_value]
      clear hw hidx hsl hcv
      go_wp2
      go_ret2
      exact ⟨⟨j + 1, by omega, by omega, HM.out (by omega), rfl⟩, (Below.refl _ _).alloc (Nat.le_refl _) _⟩

set_option maxHeartbeats 1000000 in
set_option maxRecDepth 100000 in
theorem format_int (n : Nat) (hn : n < 4294967296) (w : World) (hdb : w.cell? ⟨5, 15, none⟩ = some (.int .u8 4)) :
    Calls Tryd.prog 32 #[.int .u64 (n : Int), .int .i64 16] w fun e w' => (∃ k, 1 ≤ k ∧ k ≤ 8 ∧ n < 16 ^ k ∧ e = .returned (.string (strOfNums (hexL n k)))) ∧ Below w.heap.size w w' := by
  go_enter Tryd.func32, Tryd.ntmps32
  go_wp2_with (go_at_call 43; refine (format16 n hn _ hdb).mono ?_; rintro e w' ⟨⟨k, h1, h2, h3, rfl⟩, hB⟩)
  go_ret
  exact ⟨⟨k, h1, h2, h3, rfl⟩, hB⟩

set_option maxHeartbeats 1000000 in
set_option maxRecDepth 100000 in
theorem format_pub (n : Nat) (hn : n < 4294967296) (w : World) (hdb : w.cell? ⟨5, 15, none⟩ = some (.int .u8 4)) :
    Calls Tryd.prog 26 #[.int .u64 (n : Int), .int .i64 16] w fun e w' => (∃ k, 1 ≤ k ∧ k ≤ 8 ∧ n < 16 ^ k ∧ e = .returned (.string (strOfNums (hexL n k)))) ∧ Below w.heap.size w w' := by
  go_enter Tryd.func26, Tryd.ntmps26
  go_wp2_with (go_at_call 32; refine (format_int n hn _ hdb).mono ?_; rintro e w' ⟨⟨k, h1, h2, h3, rfl⟩, hB⟩)
  go_ret
  exact ⟨⟨k, h1, h2, h3, rfl⟩, hB⟩

/-- the text of a check sum -/
def text (n : Nat) : ByteArray := strOfNums (hexL n 8)
theorem hexL_zero (n : Nat) : ∀ m k, n < 16 ^ k → hexL n (k + m) = List.replicate m (48 : Int) ++ hexL n k := by
  intro m
  induction m with
  | zero => intro k _; simp
  | succ m ih =>
    intro k hk
    have h0 : n / 16 ^ (k + m) = 0 := Nat.div_eq_of_lt (Nat.lt_of_lt_of_le hk (Nat.pow_le_pow_right (by decide) (by omega)))
    rw [show k + (m + 1) = (k + m) + 1 from by omega, hexL, h0, ih k hk, List.replicate_succ, Nat.zero_mod, show dg 0 = 48 from by unfold dg; rfl]
    rfl
theorem repeatL_zeros (m : Nat) : Lib.repeatL [48] m = List.replicate m 48 := by
  induction m with
  | zero => rfl
  | succ m ih => rw [List.replicate_succ, ← ih]; rfl
theorem text_join (n k : Nat) (h8 : k ≤ 8) (h : n < 16 ^ k) : (⟨(Lib.repeatL [48] (8 - k)).toArray⟩ : ByteArray) ++ strOfNums (hexL n k) = text n := by
  have e := hexL_zero n (8 - k) k h
  rw [show k + (8 - k) = 8 from by omega] at e
  unfold text
  rw [e, repeatL_zeros]
  apply ByteArray.ext
  rw [ByteArray.data_append]
  simp [strOfNums]

set_option maxHeartbeats 1000000 in
set_option maxRecDepth 100000 in
theorem text_any (n : Nat) (hn : n < 4294967296) (w : World) (hdb : w.cell? ⟨5, 15, none⟩ = some (.int .u8 4)) :
    Calls Tryd.prog 17 #[.int .u32 (n : Int)] w fun e w' => e = .returned (.string (text n)) ∧ Below w.heap.size w w' := by
  go_enter Tryd.func17, Tryd.ntmps17
  go_wp2_with (go_at_call 26; refine (format_pub n hn _ hdb).mono ?_; rintro e w1 ⟨⟨k, h1, h2, h3, rfl⟩, hB⟩)
  have hS : (strOfNums (hexL n k)).size = k := by rw [strOfNums_size, hexL_length]
  rw [show wrap64 (8 - ((strOfNums (hexL n k)).size : Int)) = ((8 - k : Nat) : Int) from by rw [hS]; unfold wrap64; omega]
  refine (Tryd.strings_Repeat ⟨#[48]⟩ (8 - k) w1 (by omega) (by show 1 * (8 - k) ≤ _; omega)).mono ?_
  rintro e w2 ⟨rfl, hB2⟩
  have HT := Lib.hid (text_join n k h2 h3)
  have HB := Lib.hid (hB.trans (hB2.mono hB.size))
  have hle : (⟨(Lib.repeatL [48] (8 - k)).toArray⟩ : ByteArray).size + (strOfNums (hexL n k)).size ≤ 9223372036854775807 := by
    rw [hS, repeatL_zeros]
    show (List.replicate (8 - k) (48 : UInt8)).toArray.size + k ≤ _
    simp
    omega
  clear hB hB2 hS
  generalize (⟨(Lib.repeatL [48] (8 - k)).toArray⟩ : ByteArray) = SA at *
  generalize strOfNums (hexL n k) = SB at *
  go_wp2
  go_ret
  exact ⟨by rw [← HT.out]; rfl, HB.out⟩
end Go.Proofs.YtbmkjjoehancbaaDoor.ACrc
