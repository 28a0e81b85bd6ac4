/- The contracts of strconv.ParseUint at base 16 and 32 bits, crc.Parse. The walk of internal/strconv.ParseUint is turned from the kit's worked one at base 10. -/
import Derived.Test.YtbmkjjoehancbaaDoorAHex
import Derived.Lib.Strings
import Derived.Lib.Walk
import Derived.Lib.ConvBytes
import Derived.Lib.AtoiAllMem
import Derived.Lib.Hide
import Derived.Laws.Strings3
import Derived.Laws.Closers25
import Derived.Laws.Closers25b
import Derived.BigCall
import Derived.BigGuard
namespace Go.Proofs.YtbmkjjoehancbaaDoor.ACrc
open Go.RowKit Go.Proofs.YtbmkjjoehancbaaDoor.Crc

/-- what ParseUint makes of bytes at base 16 and 32 bits; none: an error -/
def pu16 : Nat → List UInt8 → Option Nat
  | acc, [] => some acc
  | acc, c :: l =>
    if 48 ≤ c.toNat ∧ c.toNat ≤ 57 then (if 4294967296 ≤ acc * 16 + (c.toNat - 48) then none else pu16 (acc * 16 + (c.toNat - 48)) l)
    else if 97 ≤ c.toNat ||| 32 ∧ c.toNat ||| 32 ≤ 102 then (if 4294967296 ≤ acc * 16 + ((c.toNat ||| 32) - 87) then none else pu16 (acc * 16 + ((c.toNat ||| 32) - 87)) l)
    else none
def PuEnd (r : Option Nat) (e : Ending) : Prop :=
  match r with
  | some n => e = .returned (.tuple #[.int .u64 (n : Int), .nilIface])
  | none => ∃ x c : Int, (c = 1 ∨ c = 2) ∧ e = .returned (.tuple #[.int .u64 x, .iface 93 (.int .i64 c)])

theorem letter_gt (c : Nat) (h : 97 ≤ c ||| 32) : 57 < c := by
  rcases Nat.lt_or_ge c 64 with h64 | h64
  · have : c ||| 32 < 64 := Nat.or_lt_two_pow (n := 6) h64 (by decide)
    omega
  · omega
theorem letter_95 (c : Nat) (h : c ||| 32 ≤ 102) : (c : Int) ≠ 95 := by
  intro e
  obtain rfl : c = 95 := by omega
  exact absurd h (by decide)

set_option maxHeartbeats 32000000 in
set_option maxRecDepth 100000 in
theorem parse_int (t : ByteArray) (hne : t.size ≠ 0) (hmax : t.size ≤ 9223372036854775806) (w : World) :
    Calls Tryd.prog 49 #[.string t, .int .i64 16, .int .i64 32] w fun e w' => PuEnd (pu16 0 t.data.toList) e ∧ w' = Lib.bytesWorld w 5 t := by
  have hemp : t.toList.isEmpty = false := by
    rw [← decide_eq_emptyBytes]
    exact decide_eq_false (fun h => hne (by rw [h]; rfl))
  have hcv := Lib.run_convert_string_bytes (P := Tryd.prog) w 9 23 5 t (u := .string) Tryd.underlying9 Tryd.underlying23 Tryd.underlying5
  have hB : ∀ j, j < t.size → (Lib.bytesWorld w 5 t).cell? ⟨w.heap.size, j, none⟩ = some (.int .u8 (t.data.toList.getD j 0).toNat) := fun j hj => Lib.bytesWorld_cell w 5 t j hj
  obtain ⟨W1, hW1⟩ : ∃ W1, W1 = Lib.bytesWorld w 5 t := ⟨_, rfl⟩
  rw [← hW1] at hcv hB ⊢
  clear hW1
  obtain ⟨bs, hL⟩ : ∃ bs, bs = t.data.toList := ⟨_, rfl⟩
  have hLn : bs.length = t.size := by rw [hL, Lib.size_eq]
  rw [← hL] at hB ⊢
  clear hL
  go_enter Tryd.func49, Tryd.ntmps49
  go_wp2
  go_loop [12, 13, 101] (fun vu vn vi => ∃ (k acc : Nat) (a : Int), vu = .bool false ∧ vn = .int .u64 a ∧ vi = .int .i64 k ∧ k ≤ t.size ∧ Hid (a = (acc : Int) ∧ acc < 4294967296 ∧ pu16 0 bs = pu16 acc (bs.drop k)))
    (fun _ _ vi => t.size - (intOf vi).toNat)
  case atStart => exact ⟨0, 0, 0, rfl, rfl, rfl, by omega, rfl, by omega, rfl⟩
  case round =>
    obtain ⟨k, acc, a, rfl, rfl, rfl, hk, hh⟩ := hrel
    obtain ⟨ha, hacc, hdec⟩ := hh.out
    clear hh
    have a0 : 0 ≤ a := by omega
    have a1 : a < 4294967296 := by omega
    by_cases hkn : k < t.size
    · have hc := hB k hkn
      have hdrop : bs.drop k = bs[k]'(by omega) :: bs.drop (k + 1) := List.drop_eq_getElem_cons (by omega)
      have hget : bs.getD k 0 = bs[k]'(by omega) := by simp [List.getD, List.getElem?_eq_getElem (show k < bs.length by omega)]
      rw [hdrop] at hdec
      rw [hget] at hc
      generalize bs[k]'(by omega) = c at hc hdec
      have hc256 : c.toNat < 256 := c.toNat_lt
      clear hB hdrop hget
      by_cases hdig : 48 ≤ c.toNat ∧ c.toNat ≤ 57
      · obtain ⟨hd0, hd1⟩ := hdig
        by_cases hov : 4294967296 ≤ acc * 16 + (c.toNat - 48)
        · have hF : pu16 acc (c :: bs.drop (k + 1)) = none := by simp [pu16, hd0, hd1, hov]
          have HD := Lib.hid (hdec.trans hF)
          have iov : 4294967296 ≤ a * 16 + ((c.toNat : Int) - 48) := by omega
          clear hacc hF hov ha hdec
          go_wp2
          go_ret2
          exact ⟨by rw [HD.out]; exact ⟨_, 1, .inl rfl, rfl⟩, rfl⟩
        · have hF : pu16 acc (c :: bs.drop (k + 1)) = pu16 (acc * 16 + (c.toNat - 48)) (bs.drop (k + 1)) := by simp [pu16, hd0, hd1, hov]
          have HN : Hid (a * 16 + ((c.toNat : Int) - 48) = ((acc * 16 + (c.toNat - 48) : Nat) : Int) ∧ acc * 16 + (c.toNat - 48) < 4294967296 ∧ pu16 0 bs = pu16 (acc * 16 + (c.toNat - 48)) (bs.drop (k + 1))) := Lib.hid ⟨by omega, by omega, hdec.trans hF⟩
          have iov : a * 16 + ((c.toNat : Int) - 48) < 4294967296 := by omega
          clear hacc hF hov hdec ha
          go_wp2
          refine ⟨⟨k + 1, acc * 16 + (c.toNat - 48), a * 16 + ((c.toNat : Int) - 48), rfl, (by first | rfl | (congr 1; omega)), (by first | rfl | (congr 1; omega)), by omega, HN⟩, by simp [intOf]; omega⟩
      · have hlow := u8_or_nat c.toNat 32 hc256 (by decide)
        rw [show ((32 : Nat) : Int) = 32 from rfl] at hlow
        have hl256 : c.toNat ||| 32 < 256 := Nat.or_lt_two_pow (n := 8) hc256 (by decide)
        by_cases hlet : 97 ≤ c.toNat ||| 32 ∧ c.toNat ||| 32 ≤ 102
        · have h57 : 57 < c.toNat := letter_gt _ hlet.1
          have h95 : ((c.toNat : Int) == 95) = false := beq_eq_false_iff_ne.2 (letter_95 _ hlet.2)
          obtain ⟨hd0, hd1⟩ := hlet
          by_cases hov : 4294967296 ≤ acc * 16 + ((c.toNat ||| 32) - 87)
          · have hF : pu16 acc (c :: bs.drop (k + 1)) = none := by simp only [pu16]; rw [if_neg hdig, if_pos ⟨hd0, hd1⟩, if_pos hov]
            have HD := Lib.hid (hdec.trans hF)
            generalize c.toNat ||| 32 = l at *
            have iov : 4294967296 ≤ a * 16 + ((l : Int) - 97 + 10) := by omega
            clear hacc hF hov ha hdec hdig
            go_wp2_with (go_at_call 58; refine (Tryd.internal_strconv_lower _ _).mono ?_; rintro e w' ⟨rfl, rfl⟩)
            go_ret2
            exact ⟨by rw [HD.out]; exact ⟨_, 1, .inl rfl, rfl⟩, rfl⟩
          · have hF : pu16 acc (c :: bs.drop (k + 1)) = pu16 (acc * 16 + ((c.toNat ||| 32) - 87)) (bs.drop (k + 1)) := by simp only [pu16]; rw [if_neg hdig, if_pos ⟨hd0, hd1⟩, if_neg hov]
            have HD := hdec.trans hF
            generalize c.toNat ||| 32 = l at *
            have HN : Hid (a * 16 + ((l : Int) - 97 + 10) = ((acc * 16 + (l - 87) : Nat) : Int) ∧ acc * 16 + (l - 87) < 4294967296 ∧ pu16 0 bs = pu16 (acc * 16 + (l - 87)) (bs.drop (k + 1))) := Lib.hid ⟨by omega, by omega, HD⟩
            have iov : a * 16 + ((l : Int) - 97 + 10) < 4294967296 := by omega
            clear hacc hF hov hdec ha hdig HD
            go_wp2_with (go_at_call 58; refine (Tryd.internal_strconv_lower _ _).mono ?_; rintro e w' ⟨rfl, rfl⟩)
            refine ⟨⟨k + 1, acc * 16 + (l - 87), a * 16 + ((l : Int) - 97 + 10), rfl, (by first | rfl | (congr 1; omega)), (by first | rfl | (congr 1; omega)), by omega, HN⟩, by simp [intOf]; omega⟩
        · have hF : pu16 acc (c :: bs.drop (k + 1)) = none := by simp only [pu16]; rw [if_neg hdig, if_neg hlet]
          have HD := Lib.hid (hdec.trans hF)
          have h48 : (c.toNat : Int) < 48 ∨ 57 < (c.toNat : Int) := by omega
          have h95 : ((c.toNat : Int) == 95) = false ∨ (((c.toNat : Int) == 95) = true ∧ 57 < (c.toNat : Int) ∧ 122 < c.toNat ||| 32) := by
            by_cases e : c.toNat = 95
            · refine .inr ⟨beq_iff_eq.2 (by omega), by omega, by rw [e]; decide⟩
            · exact .inl (beq_eq_false_iff_ne.2 (by omega))
          have hll : c.toNat ||| 32 < 97 ∨ (103 ≤ c.toNat ||| 32 ∧ c.toNat ||| 32 ≤ 122) ∨ 122 < c.toNat ||| 32 := by omega
          clear hacc hF ha hdec hdig hlet
          generalize c.toNat ||| 32 = l at *
          rcases h95 with h95 | ⟨h95, h57, hl⟩
          · rcases h48 with h48 | h48 <;> rcases hll with hl | ⟨hl, hl2⟩ | hl
            all_goals
              go_wp2_with (go_at_call 58; refine (Tryd.internal_strconv_lower _ _).mono ?_; rintro e w' ⟨rfl, rfl⟩)
              go_ret2
              exact ⟨by rw [HD.out]; exact ⟨0, 2, .inr rfl, rfl⟩, rfl⟩
          · clear h48 hll
            go_wp2_with (go_at_call 58; refine (Tryd.internal_strconv_lower _ _).mono ?_; rintro e w' ⟨rfl, rfl⟩)
            go_ret2
            exact ⟨by rw [HD.out]; exact ⟨0, 2, .inr rfl, rfl⟩, rfl⟩
    · -- THE BYTES ARE AT AN END
      have hkk : k = t.size := by omega
      subst hkk
      have hF : pu16 acc (bs.drop t.size) = some acc := by rw [List.drop_eq_nil_of_le (by omega)]; rfl
      have HD := Lib.hid (hdec.trans hF)
      subst ha
      clear hacc hF a0 a1 hdec
      go_wp2
      go_ret2
      exact ⟨by rw [HD.out]; exact rfl, rfl⟩
end Go.Proofs.YtbmkjjoehancbaaDoor.ACrc
