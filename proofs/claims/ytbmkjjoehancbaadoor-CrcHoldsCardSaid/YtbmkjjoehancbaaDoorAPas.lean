/- The contracts of strconv.ParseUint and crc.Parse. -/
import Derived.Test.YtbmkjjoehancbaaDoorAPar
import Derived.Lib.AtoiErrMem
import Derived.Lib.SlicesS
namespace Go.Proofs.YtbmkjjoehancbaaDoor.ACrc
open Go.RowKit Go.Proofs.YtbmkjjoehancbaaDoor.Crc

/-- what the package-level variables hold, as far as the contracts want it -/
structure Vars (w : World) : Prop where
  bruijn : w.cell? ⟨5, 15, none⟩ = some (.int .u8 4)
  syn : ∃ te pe, w.cell? ⟨2, 0, none⟩ = some (.iface te pe)
  rng : ∃ te pe, w.cell? ⟨3, 0, none⟩ = some (.iface te pe)
theorem Vars.below {w w' : World} (h : Vars w) {B : Nat} (hb : Below B w w') (hB : w.heap.size ≤ B) : Vars w' := by
  have f : ∀ {a : Addr} {v : Value}, w.cell? a = some v → w'.cell? a = some v := fun h => (hb.cell (Nat.lt_of_lt_of_le (World.block_lt_of_cell? w _ h) hB)).trans h
  obtain ⟨t1, p1, h1⟩ := h.syn
  obtain ⟨t2, p2, h2⟩ := h.rng
  exact ⟨f h.bruijn, ⟨t1, p1, f h1⟩, ⟨t2, p2, f h2⟩⟩

def pu (t : ByteArray) : Option Nat := if t.size = 0 then none else pu16 0 t.data.toList
def PubEnd (r : Option Nat) (e : Ending) : Prop :=
  match r with
  | some n => e = .returned (.tuple #[.int .u64 (n : Int), .nilIface])
  | none => ∃ x p, e = .returned (.tuple #[.int .u64 x, .iface 96 (.pointer (some p))])

set_option maxHeartbeats 2000000 in
set_option maxRecDepth 100000 in
theorem parse_int_empty (w : World) :
    Calls Tryd.prog 49 #[.string ⟨#[]⟩, .int .i64 16, .int .i64 32] w fun e w' => e = .returned (.tuple #[.int .u64 0, .iface 93 (.int .i64 2)]) ∧ w = w' := by
  go_enter Tryd.func49, Tryd.ntmps49
  go_wp2
  go_ret2
  exact ⟨rfl, rfl⟩

set_option maxHeartbeats 2000000 in
set_option maxRecDepth 100000 in
theorem parse_pub (t : ByteArray) (hmax : t.size ≤ 281474976710656) (w : World) (hv : Vars w) :
    Calls Tryd.prog 39 #[.string t, .int .i64 16, .int .i64 32] w fun e w' => PubEnd (pu t) e ∧ Below w.heap.size w w' := by
  have HV := Lib.hid hv
  have HI : ∀ W, Calls Tryd.prog 49 #[.string t, .int .i64 16, .int .i64 32] W fun e w' => PuEnd (pu t) e ∧ Below W.heap.size W w' := fun W => by
    by_cases h0 : t.size = 0
    · have ht : t = ⟨#[]⟩ := by
        obtain ⟨⟨l⟩⟩ := t
        cases l with
        | nil => rfl
        | cons _ _ => simp [ByteArray.size] at h0
      unfold pu
      rw [if_pos h0]
      subst ht
      exact (parse_int_empty W).mono fun e w' ⟨he, hw⟩ => ⟨⟨0, 2, .inr rfl, he⟩, hw ▸ Below.refl _ _⟩
    · unfold pu
      rw [if_neg h0]
      refine (parse_int t h0 (by omega) W).mono fun e w' ⟨he, hw⟩ => ⟨he, ?_⟩
      subst hw
      exact Lib.bytesWorld_below _ _ _
  clear hv
  generalize pu t = r at *
  go_enter Tryd.func39, Tryd.ntmps39
  go_wp2_with fail
  refine (HI _).mono ?_
  rintro e w1 ⟨he, hB⟩
  have HB := Lib.hid hB
  clear hB HI
  cases r with
  | some n =>
    obtain rfl := he
    go_wp2
    go_ret2
    exact ⟨rfl, HB.out⟩
  | none =>
    obtain ⟨x, c, hc, rfl⟩ := he
    have hv1 := HV.out.below HB.out (Nat.le_refl _)
    obtain ⟨t1, p1, h1⟩ := hv1.syn
    obtain ⟨t2, p2, h2⟩ := hv1.rng
    rcases hc with rfl | rfl
    · go_wp2_with (go_at_call 50; refine (Tryd.strconv_toError_range _ t _ _ _ _ hmax h2 (.inr ⟨_, _, rfl⟩)).mono ?_; rintro e w2 ⟨N, rfl, _, _, hB2⟩)
      have HB3 := HB.out.trans (hB2.mono HB.out.size)
      clear hB2
      go_ret2
      exact ⟨⟨x, _, rfl⟩, HB3⟩
    · go_wp2_with (go_at_call 50; refine (Tryd.strconv_toError_syntax _ t _ _ _ _ hmax h1 (.inr ⟨_, _, rfl⟩)).mono ?_; rintro e w2 ⟨N, rfl, _, _, hB2⟩)
      have HB3 := HB.out.trans (hB2.mono HB.out.size)
      clear hB2
      go_ret2
      exact ⟨⟨x, _, rfl⟩, HB3⟩

theorem pu16_lt (l : List UInt8) : ∀ acc n, acc < 4294967296 → pu16 acc l = some n → n < 4294967296 := by
  induction l with
  | nil => intro acc n h he; simp [pu16] at he; omega
  | cons c l ih =>
    intro acc n h he
    simp only [pu16] at he
    split at he
    · split at he
      · cases he
      · exact ih _ _ (by omega) he
    · split at he
      · split at he
        · cases he
        · exact ih _ _ (by omega) he
      · cases he
theorem pu_lt (t : ByteArray) (n : Nat) (h : pu t = some n) : n < 4294967296 := by
  unfold pu at h
  split at h
  · cases h
  · exact pu16_lt _ 0 n (by decide) h
/-- what Parse answers -/
def parseR (s : ByteArray) : Int × Int :=
  match pu s with
  | none => (0, 6)
  | some n => if text n = s then ((n : Int), 0) else (0, 6)

set_option maxHeartbeats 2000000 in
set_option maxRecDepth 100000 in
theorem parse_any (t : ByteArray) (hmax : t.size ≤ 281474976710656) (w : World) (hv : Vars w) :
    Calls Tryd.prog 28 #[.string t] w fun e w' => e = .returned (.tuple #[.int .u32 (parseR t).1, .int .i64 (parseR t).2]) ∧ Below w.heap.size w w' := by
  have HV := Lib.hid hv
  have HI := fun W (h : Vars W) => parse_pub t hmax W h
  have HR := Lib.hid (show parseR t = match pu t with | none => (0, 6) | some n => if text n = t then ((n : Int), 0) else (0, 6) from rfl)
  have HL := Lib.hid (pu_lt t)
  clear hv
  generalize pu t = r at *
  generalize parseR t = R at *
  go_enter Tryd.func28, Tryd.ntmps28
  go_wp2_with fail
  refine (HI _ HV.out).mono ?_
  rintro e w1 ⟨he, hB⟩
  have hv1 := (HV.out.below hB (Nat.le_refl _)).bruijn
  have HB := Lib.hid hB
  clear hB HI
  cases r with
  | none =>
    obtain ⟨x, p, rfl⟩ := he
    go_wp2
    go_ret2
    exact ⟨by rw [HR.out]; rfl, HB.out⟩
  | some n =>
    obtain rfl := he
    have hn := HL.out n rfl
    go_wp2_with (go_at_call 17; refine (text_any n hn _ hv1).mono ?_; rintro e w2 ⟨rfl, hB2⟩)
    have HB3 := HB.out.trans (hB2.mono HB.out.size)
    clear hB2
    · have ht : text n ≠ t := (Lib.bytes_beq_false_iff _ _).1 (by simpa using (by assumption : (!(text n).toList == t.toList) = true))
      go_ret2
      exact ⟨by rw [HR.out, if_neg ht]; rfl, HB3⟩
    · have HB3 := HB.out.trans (hB2.mono HB.out.size)
      have ht : text n = t := (Lib.bytes_beq_iff _ _).1 (by simpa using (by assumption : (!(text n).toList == t.toList) = false))
      go_ret2
      exact ⟨by rw [HR.out, if_pos ht]; rfl, HB3⟩

/-! Plain: a text is read back. -/
theorem dg_byte (d : Nat) (h : d < 16) (acc : Nat) (l : List UInt8) (ho : acc * 16 + d < 4294967296) : pu16 acc (UInt8.ofNat (dg d).toNat :: l) = pu16 (acc * 16 + d) l := by
  rcases (by omega : d = 0 ∨ d = 1 ∨ d = 2 ∨ d = 3 ∨ d = 4 ∨ d = 5 ∨ d = 6 ∨ d = 7 ∨ d = 8 ∨ d = 9 ∨ d = 10 ∨ d = 11 ∨ d = 12 ∨ d = 13 ∨ d = 14 ∨ d = 15) with rfl | rfl | rfl | rfl | rfl | rfl | rfl | rfl | rfl | rfl | rfl | rfl | rfl | rfl | rfl | rfl <;>
    (simp only [pu16]; first | (rw [if_pos (by decide), if_neg (by show ¬ _ ≤ acc * 16 + _; simp [dg]; omega)]; rfl) | (rw [if_neg (by decide), if_pos (by decide), if_neg (by show ¬ _ ≤ acc * 16 + _; simp [dg]; omega)]; rfl))
theorem pu16_hex (n : Nat) (hn : n < 4294967296) : ∀ k, k ≤ 8 → pu16 (n / 16 ^ k) ((hexL n k).map fun x => UInt8.ofNat x.toNat) = some n := by
  intro k
  induction k with
  | zero => intro _; simp [hexL, pu16]
  | succ k ih =>
    intro hk
    have hd : n / 16 ^ (k + 1) * 16 + n / 16 ^ k % 16 = n / 16 ^ k := by rw [pow16_split]; omega
    have hlt : n / 16 ^ k ≤ n := Nat.div_le_self _ _
    simp only [hexL, List.map_cons]
    rw [dg_byte _ (by omega) _ _ (by omega), hd]
    exact ih (by omega)
theorem pu_text (n : Nat) (hn : n < 4294967296) : pu (text n) = some n := by
  unfold pu text
  rw [if_neg (by rw [strOfNums_size, hexL_length]; decide), strOfNums_data]
  have h := pu16_hex n hn 8 (by decide)
  rwa [Nat.div_eq_of_lt (by simpa using hn)] at h
theorem parseR_text (n : Nat) (hn : n < 4294967296) : parseR (text n) = ((n : Int), 0) := by
  unfold parseR
  rw [pu_text n hn]
  simp
end Go.Proofs.YtbmkjjoehancbaaDoor.ACrc
