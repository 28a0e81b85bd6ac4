/- The contract of the reference's Parse, and what it has to do with crc.Parse's. -/
import Derived.Test.YtbmkjjoehancbaaDoorATx
import Derived.Test.YtbmkjjoehancbaaDoorAPas
namespace Go.Proofs.YtbmkjjoehancbaaDoor.ACrc
open Go.RowKit Go.Proofs.YtbmkjjoehancbaaDoor.Crc

/-- what the reference's Parse makes of bytes; none: no check sum -/
def rp : Nat → List UInt8 → Option Nat
  | acc, [] => some acc
  | acc, c :: l =>
    if 48 ≤ c.toNat ∧ c.toNat ≤ 57 then rp (acc * 16 + (c.toNat - 48)) l
    else if 97 ≤ c.toNat ∧ c.toNat ≤ 102 then rp (acc * 16 + (c.toNat - 87)) l
    else none
def refParse (s : ByteArray) : Option Nat := if s.size = 8 then rp 0 s.data.toList else none

theorem dg_of (c : UInt8) (d : Nat) (h : d < 16) (hc : (c.toNat = 48 + d ∧ d < 10) ∨ (c.toNat = 87 + d ∧ 10 ≤ d)) : c = UInt8.ofNat (dg d).toNat := by
  apply UInt8.toNat_inj.1
  have e : ∀ k, k < 256 → (UInt8.ofNat k).toNat = k := fun k hk => by rw [UInt8.toNat_ofNat']; exact Nat.mod_eq_of_lt hk
  rcases (by omega : d = 0 ∨ d = 1 ∨ d = 2 ∨ d = 3 ∨ d = 4 ∨ d = 5 ∨ d = 6 ∨ d = 7 ∨ d = 8 ∨ d = 9 ∨ d = 10 ∨ d = 11 ∨ d = 12 ∨ d = 13 ∨ d = 14 ∨ d = 15) with rfl | rfl | rfl | rfl | rfl | rfl | rfl | rfl | rfl | rfl | rfl | rfl | rfl | rfl | rfl | rfl <;>
    (rcases hc with ⟨hc, hd⟩ | ⟨hc, hd⟩ <;> first | (exfalso; omega) | (rw [hc]; decide))
theorem rp_dg (d : Nat) (h : d < 16) (acc : Nat) (l : List UInt8) : rp acc (UInt8.ofNat (dg d).toNat :: l) = rp (acc * 16 + d) l := by
  rcases (by omega : d = 0 ∨ d = 1 ∨ d = 2 ∨ d = 3 ∨ d = 4 ∨ d = 5 ∨ d = 6 ∨ d = 7 ∨ d = 8 ∨ d = 9 ∨ d = 10 ∨ d = 11 ∨ d = 12 ∨ d = 13 ∨ d = 14 ∨ d = 15) with rfl | rfl | rfl | rfl | rfl | rfl | rfl | rfl | rfl | rfl | rfl | rfl | rfl | rfl | rfl | rfl <;>
    (simp only [rp]; first | (rw [if_pos (by decide)]; rfl) | (rw [if_neg (by decide), if_pos (by decide)]; rfl))
theorem rp_hex (n : Nat) : ∀ k, rp (n / 16 ^ k) ((hexL n k).map fun x => UInt8.ofNat x.toNat) = some n := by
  intro k
  induction k with
  | zero => simp [hexL, rp]
  | succ k ih =>
    have hd : n / 16 ^ (k + 1) * 16 + n / 16 ^ k % 16 = n / 16 ^ k := by rw [pow16_split]; omega
    simp only [hexL, List.map_cons]
    rw [rp_dg _ (by omega), hd]
    exact ih
theorem refParse_text (n : Nat) (hn : n < 4294967296) : refParse (text n) = some n := by
  unfold refParse text
  rw [if_pos (by rw [strOfNums_size, hexL_length]), strOfNums_data]
  have h := rp_hex n 8
  rwa [Nat.div_eq_of_lt (by simpa using hn)] at h
theorem rp_inv (n : Nat) : ∀ (l : List UInt8) (acc : Nat), rp acc l = some n → n / 16 ^ l.length = acc ∧ l = (hexL n l.length).map fun x => UInt8.ofNat x.toNat := by
  intro l
  induction l with
  | nil =>
    intro acc h
    simp [rp] at h
    subst h
    exact ⟨by simp, rfl⟩
  | cons c l ih =>
    intro acc h
    have key : ∀ d, d < 16 → ((c.toNat = 48 + d ∧ d < 10) ∨ (c.toNat = 87 + d ∧ 10 ≤ d)) → rp (acc * 16 + d) l = some n → n / 16 ^ (c :: l).length = acc ∧ c :: l = (hexL n (c :: l).length).map fun x => UInt8.ofNat x.toNat := by
      intro d hd hc h
      obtain ⟨h1, h2⟩ := ih _ h
      refine ⟨?_, ?_⟩
      · show n / 16 ^ (l.length + 1) = acc
        rw [pow16_split, h1]
        omega
      · show c :: l = (hexL n (l.length + 1)).map _
        simp only [hexL, List.map_cons]
        rw [← h2, h1, show (acc * 16 + d) % 16 = d from by omega, ← dg_of c d hd hc]
    simp only [rp] at h
    split at h
    · exact key (c.toNat - 48) (by omega) (by omega) h
    · split at h
      · exact key (c.toNat - 87) (by omega) (by omega) h
      · cases h
theorem refParse_inv (s : ByteArray) (n : Nat) (h : refParse s = some n) : n < 4294967296 ∧ s = text n := by
  unfold refParse at h
  split at h
  · rename_i h8
    have hl : s.data.toList.length = 8 := by rw [← Lib.size_eq]; exact h8
    obtain ⟨h1, h2⟩ := rp_inv n _ _ h
    rw [hl] at h1 h2
    refine ⟨by have := Nat.div_add_mod n (16 ^ 8); omega, ?_⟩
    apply ByteArray.ext
    apply Array.toList_inj.1
    rw [h2]
    unfold text
    rw [strOfNums_data]
  · cases h
/-- the two answers say the same -/
theorem parse_same (s : ByteArray) : parseR s = match refParse s with | some n => ((n : Int), 0) | none => (0, 6) := by
  cases h : refParse s with
  | some n =>
    obtain ⟨hn, rfl⟩ := refParse_inv s n h
    exact parseR_text n hn
  | none =>
    unfold parseR
    cases hp : pu s with
    | none => rfl
    | some n =>
      show (if text n = s then ((n : Int), (0 : Int)) else (0, 6)) = (0, 6)
      rw [if_neg]
      rintro rfl
      rw [refParse_text n (pu_lt _ n hp)] at h
      cases h

def rpV : Option Nat → Value
  | some n => .tuple #[.int .u32 (n : Int), .bool true]
  | none => .tuple #[.int .u32 0, .bool false]
set_option maxHeartbeats 4000000 in
set_option maxRecDepth 100000 in
theorem rparse_any (t : ByteArray) (w : World) :
    Calls Tryd.prog 19 #[.string t] w fun e w' => e = .returned (rpV (refParse t)) ∧ w = w' := by
  have HT := Lib.hid (show refParse t = if t.size = 8 then rp 0 t.data.toList else none from rfl)
  by_cases h8 : t.size = 8
  · have HT2 := Lib.hid (HT.out.trans (if_pos h8))
    have hLn : t.data.toList.length = 8 := by rw [← Lib.size_eq]; exact h8
    have hG : ∀ j : Nat, j < 8 → (Instr.index 9 (.string t) (.int .i64 j)).run Tryd.prog w = .ok (.int .u8 (t.data.toList.getD j 0).toNat) w := fun j hj => by
      have hi : 0 ≤ (j : Int) ∧ (j : Int) < (t.size : Int) := by omega
      rw [run_index_string w 9 t .i64 j Tryd.underlying9, dif_pos hi]
      congr 3
      show (t.data[j]'(by show j < t.size; omega)).toNat = _
      rw [List.getD, List.getElem?_eq_getElem (by rw [hLn]; exact hj)]
      simp
    clear HT
    generalize refParse t = R at *
    obtain ⟨bs, hL⟩ : ∃ bs, bs = t.data.toList := ⟨_, rfl⟩
    rw [← hL] at hLn HT2 hG
    clear hL
    have HG := Lib.hid hG
    clear hG
    go_enter Tryd.func19, Tryd.ntmps19
    go_wp2
    go_loop [4, 5] (fun vn vi => ∃ (k acc : Nat), vn = .int .u32 acc ∧ vi = .int .i64 k ∧ k ≤ 8 ∧ Hid (acc < 16 ^ k ∧ R = rp acc (bs.drop k)))
      (fun _ vi => 8 - (intOf vi).toNat)
    case atStart => exact ⟨0, 0, rfl, rfl, by omega, by decide, HT2.out⟩
    case round =>
      obtain ⟨k, acc, rfl, rfl, hk, hh⟩ := hrel
      obtain ⟨hacc, hdec⟩ := hh.out
      clear hh
      by_cases hkn : k < 8
      · have hix := HG.out k hkn
        have hacc2 : acc < 268435456 := Nat.lt_of_lt_of_le hacc (by rcases (by omega : k = 0 ∨ k = 1 ∨ k = 2 ∨ k = 3 ∨ k = 4 ∨ k = 5 ∨ k = 6 ∨ k = 7) with rfl | rfl | rfl | rfl | rfl | rfl | rfl | rfl <;> decide)
        have hp : 16 ^ (k + 1) = 16 ^ k * 16 := Nat.pow_succ ..
        have hdrop : bs.drop k = bs[k]'(by omega) :: bs.drop (k + 1) := List.drop_eq_getElem_cons (by omega)
        have hget : bs.getD k 0 = bs[k]'(by omega) := by simp [List.getD, List.getElem?_eq_getElem (show k < bs.length by omega)]
        rw [hdrop] at hdec
        rw [hget] at hix
        generalize bs[k]'(by omega) = c at hix hdec
        have hc256 : c.toNat < 256 := c.toNat_lt
        clear hdrop hget
        by_cases hdig : 48 ≤ c.toNat ∧ c.toNat ≤ 57
        · obtain ⟨hd0, hd1⟩ := hdig
          have HN : Hid (acc * 16 + (c.toNat - 48) < 16 ^ (k + 1) ∧ R = rp (acc * 16 + (c.toNat - 48)) (bs.drop (k + 1))) := Lib.hid ⟨by rw [hp]; omega, by rw [hdec, rp, if_pos ⟨hd0, hd1⟩]⟩
          clear hdec hacc hp
          generalize c.toNat = d at *
          go_wp2
          go_round
          case rel => exact ⟨k + 1, acc * 16 + (d - 48), by go_num, by go_num, by omega, HN⟩
          case measure => simp [intOf]; omega
        · by_cases hlet : 97 ≤ c.toNat ∧ c.toNat ≤ 102
          · obtain ⟨hd0, hd1⟩ := hlet
            have HN : Hid (acc * 16 + (c.toNat - 87) < 16 ^ (k + 1) ∧ R = rp (acc * 16 + (c.toNat - 87)) (bs.drop (k + 1))) := Lib.hid ⟨by rw [hp]; omega, by rw [hdec, rp, if_neg hdig, if_pos ⟨hd0, hd1⟩]⟩
            clear hdec hacc hp hdig
            generalize c.toNat = d at *
            go_wp2
            go_round
            case rel => exact ⟨k + 1, acc * 16 + (d - 87), by go_num, by go_num, by omega, HN⟩
            case measure => simp [intOf]; omega
          · have HN := Lib.hid (show rpV R = .tuple #[.int .u32 0, .bool false] by rw [hdec, rp, if_neg hdig, if_neg hlet]; rfl)
            have h48 : c.toNat < 48 ∨ (57 < c.toNat ∧ c.toNat < 97) ∨ 102 < c.toNat := by omega
            clear hdec hacc hp hdig hlet
            generalize c.toNat = d at *
            rcases h48 with h48 | ⟨h48, h49⟩ | h48
            all_goals
              go_wp2
              go_ret2
              exact ⟨by rw [HN.out]; rfl, rfl⟩
      · obtain rfl : k = 8 := by omega
        have HN := Lib.hid (show rpV R = .tuple #[.int .u32 (acc : Int), .bool true] by rw [hdec, List.drop_eq_nil_of_le (by omega)]; rfl)
        clear hdec hacc
        go_wp2
        go_ret2
        exact ⟨by rw [HN.out]; rfl, rfl⟩
  · have HT2 := Lib.hid (HT.out.trans (if_neg h8))
    clear HT
    generalize refParse t = R at *
    go_enter Tryd.func19, Tryd.ntmps19
    go_wp2
    go_ret2
    exact ⟨by rw [HT2.out]; rfl, rfl⟩
end Go.Proofs.YtbmkjjoehancbaaDoor.ACrc
