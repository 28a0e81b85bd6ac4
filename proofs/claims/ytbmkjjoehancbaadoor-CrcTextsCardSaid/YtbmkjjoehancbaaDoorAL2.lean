/- The contract of the statement's function CrcTexts. -/
import Derived.Test.YtbmkjjoehancbaaDoorAL1
namespace Go.Proofs.YtbmkjjoehancbaaDoor.ACrc
open Go.RowKit Go.Proofs.YtbmkjjoehancbaaDoor.Crc

set_option maxHeartbeats 4000000 in
set_option maxRecDepth 100000 in
theorem texts_any (HK : KnownOk) (s : Nat) (hs : s < 4294967296) (t : ByteArray) (hmax : t.size ≤ 281474976710656) (w : World) (hv : Vars w) :
    Calls Tryd.prog 6 #[.int .u32 (s : Int), .string t] w fun r w' => r = .returned (.bool true) ∧ Below w.heap.size w w' := by
  have HV := Lib.hid hv
  have H17 := fun W h => text_any s hs W h
  have H18 := fun W => rtext_any s hs W
  have H19 := fun W => rparse_any t W
  have H20 := fun n e W h => parses_any t hmax n e W h
  have HP := parse_same t
  generalize text s = T at *
  generalize parseR t = R at *
  generalize refParse t = Q at *
  clear hv
  by_cases hl : t.size ≤ 60
  · cases Q with
    | none =>
      obtain rfl := HP
      go_enter Tryd.func6, Tryd.ntmps6
      go_wp2_with (first
        | (go_at_call 17; refine (H17 _ HV.out.bruijn).mono ?_; rintro e w2 ⟨rfl, hB⟩; have HB := Lib.hid hB; clear hB)
        | (go_at_call 18; refine (H18 _).mono ?_; rintro e w3 ⟨rfl, rfl⟩)
        | (go_at_call 19; refine (H19 _).mono ?_; rintro e w3 ⟨rfl, rfl⟩; unfold rpV)
        | (go_at_call 20; refine (H20 _ _ _ (HV.out.below HB.out (Nat.le_refl _))).mono ?_; rintro e w3 ⟨rfl, hB⟩; have HB : Hid (Below w.heap.size w w3) := Lib.hid (HB.out.trans (hB.mono HB.out.size)); clear hB)
        | (go_at_call 8; refine (HK _ (HV.out.below HB.out (Nat.le_refl _))).mono ?_; rintro e w5 ⟨rfl, hB⟩; have HB : Hid (Below w.heap.size w w5) := Lib.hid (HB.out.trans (hB.mono HB.out.size)); clear hB))
      go_ret
      exact ⟨rfl, HB.out⟩
    | some n =>
      obtain rfl := HP
      go_enter Tryd.func6, Tryd.ntmps6
      go_wp2_with (first
        | (go_at_call 17; refine (H17 _ HV.out.bruijn).mono ?_; rintro e w2 ⟨rfl, hB⟩; have HB := Lib.hid hB; clear hB)
        | (go_at_call 18; refine (H18 _).mono ?_; rintro e w3 ⟨rfl, rfl⟩)
        | (go_at_call 19; refine (H19 _).mono ?_; rintro e w3 ⟨rfl, rfl⟩; unfold rpV)
        | (go_at_call 20; refine (H20 _ _ _ (HV.out.below HB.out (Nat.le_refl _))).mono ?_; rintro e w3 ⟨rfl, hB⟩; have HB : Hid (Below w.heap.size w w3) := Lib.hid (HB.out.trans (hB.mono HB.out.size)); clear hB)
        | (go_at_call 8; refine (HK _ (HV.out.below HB.out (Nat.le_refl _))).mono ?_; rintro e w5 ⟨rfl, hB⟩; have HB : Hid (Below w.heap.size w w5) := Lib.hid (HB.out.trans (hB.mono HB.out.size)); clear hB))
      go_ret
      exact ⟨rfl, HB.out⟩
  · go_enter Tryd.func6, Tryd.ntmps6
    go_wp2_with (go_at_call 8; refine (HK _ HV.out).mono ?_; rintro e w1 ⟨rfl, hB⟩)
    go_ret
    exact ⟨rfl, hB⟩
end Go.Proofs.YtbmkjjoehancbaaDoor.ACrc
