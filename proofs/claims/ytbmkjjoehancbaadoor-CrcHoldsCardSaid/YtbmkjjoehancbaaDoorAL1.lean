/- The contract of the statement's function CrcSums. -/
import Derived.Test.YtbmkjjoehancbaaDoorALw
namespace Go.Proofs.YtbmkjjoehancbaaDoor.ACrc
open Go.RowKit Go.Proofs.YtbmkjjoehancbaaDoor.Crc

/-- the chapter's examples hold -/
def KnownOk : Prop := ∀ W, Vars W → Calls Tryd.prog 8 #[] W fun r w' => r = .returned (.bool true) ∧ Below W.heap.size W w'

set_option maxHeartbeats 4000000 in
set_option maxRecDepth 100000 in
theorem sums_any (HK : KnownOk) (s : Nat) (hs : s < 4294967296) (A : Option Addr) (zs : List Int) (c : Nat) (w : World) (hr : RdB w A zs) (hn : A = none → c = 0) (hv : Vars w) :
    Calls Tryd.prog 3 #[.int .u32 (s : Int), .slice A zs.length c] w fun r w' => r = .returned (.bool true) ∧ Below w.heap.size w w' := by
  have HV := Lib.hid hv
  have HR := Lib.hid hr
  have HN := Lib.hid hn
  have hlen := hr.len
  have HBs := Lib.hid hr.bs
  have H9 := fun A c W (h : RdB W A zs) => sum_any A zs c W h
  have H10 := fun A c W (h : RdB W A zs) => rsum_any A zs c W h
  have H11 := fun A c W (h : RdB W A zs) => update_any s hs A zs c W h
  have H12 := fun A c W (h : RdB W A zs) => rupdate_any s hs A zs c W h
  generalize sum zs = N at H9 H10
  generalize update s zs = M at H11 H12
  clear hv hr hn
  by_cases hl : zs.length ≤ 1000
  · go_enter Tryd.func3, Tryd.ntmps3
    go_wp2_with (first | (at_builtin; refine wpList_append_bytes rfl (.const (.slice none 0 0)) (.tmp 10) rfl w.heap.size (.slice none 0 0) [] rfl (own_nil w _) A zs c rfl HR.out HN.out (by simp; omega) (Nat.le_refl _) ?_; intro v1 w1 hown1 hg1))
    have hB1 := Own.below (own_nil w w.heap.size) (Below.refl _ _) (Nat.le_refl _) hg1
    simp only [List.nil_append] at hown1
    obtain ⟨A1, c1, rfl, hr1, hn1⟩ := Own.reads hown1 HBs.out (by omega)
    have HR0 := Lib.hid (HR.out.below hB1 (Nat.le_refl _))
    have HR1 := Lib.hid hr1
    have HN1 := Lib.hid hn1
    have HC1 := Lib.hid fun W (h : Below w1.heap.size w1 W) => (hr1.below h (Nat.le_refl _)).string (c := c1) hn1
    have HC0 := Lib.hid fun W (h : Below w1.heap.size w1 W) => (HR0.out.below h (Nat.le_refl _)).string (c := c) HN.out
    have HB1 := Lib.hid hB1
    clear hg1 hB1 hown1 hr1 hn1
    go_wp2_with (first
      | (go_at_call 9; refine (H9 A1 c1 _ HR1.out).mono ?_; rintro e w2 ⟨rfl, hB⟩; have HB := Lib.hid hB; clear hB)
      | (go_at_call 10; refine (H10 A c _ (HR0.out.below HB.out (Nat.le_refl _))).mono ?_; rintro e w3 ⟨rfl, rfl⟩)
      | (go_at_call 11; refine (H11 A1 c1 _ (HR1.out.below HB.out (Nat.le_refl _))).mono ?_; rintro e w3 ⟨rfl, hB⟩; have HB : Hid (Below w1.heap.size w1 w3) := Lib.hid (HB.out.trans (hB.mono HB.out.size)); clear hB; have hcv1 := HC1.out _ HB.out; have hcv0 := HC0.out _ HB.out)
      | (go_at_call 12; refine (H12 A c _ (HR0.out.below HB.out (Nat.le_refl _))).mono ?_; rintro e w4 ⟨rfl, rfl⟩)
      | (go_at_call 8; refine (HK _ (HV.out.below (HB1.out.trans (HB.out.mono HB1.out.size)) (Nat.le_refl _))).mono ?_; rintro e w5 ⟨rfl, hB⟩; have HB : Hid (Below w1.heap.size w1 w5) := Lib.hid (HB.out.trans (hB.mono HB.out.size)); clear hB))
    go_ret
    exact ⟨rfl, HB1.out.trans (HB.out.mono HB1.out.size)⟩
  · go_enter Tryd.func3, Tryd.ntmps3
    go_wp2_with (go_at_call 8; refine (HK _ HV.out).mono ?_; rintro e w1 ⟨rfl, hB⟩)
    go_ret
    exact ⟨rfl, hB⟩
end Go.Proofs.YtbmkjjoehancbaaDoor.ACrc
