/- The contract of the statement's function CrcLongs. -/
import Derived.Test.YtbmkjjoehancbaaDoorABf
namespace Go.Proofs.YtbmkjjoehancbaaDoor.ACrc
open Go.RowKit Go.Proofs.YtbmkjjoehancbaaDoor.Crc

def fillL (n k : Nat) (x : Int) : List Int := List.replicate k x ++ List.replicate (n - k) 0
theorem fillL_length (n k : Nat) (x : Int) (h : k ≤ n) : (fillL n k x).length = n := by simp [fillL]; omega
theorem fillL_set (n k : Nat) (x : Int) (h : k < n) : (fillL n k x).set k x = fillL n (k + 1) x := by
  unfold fillL
  rw [List.set_append_right _ _ (by simp)]
  obtain ⟨m, rfl⟩ : ∃ m, n = k + 1 + m := ⟨n - (k + 1), by omega⟩
  rw [show k + 1 + m - k = m + 1 by omega, show k + 1 + m - (k + 1) = m by omega, List.length_replicate, Nat.sub_self, List.replicate_succ, List.set_cons_zero, List.replicate_succ']
  simp

theorem RdB_none (w : World) (A : Option Addr) : RdB w A [] := ⟨by simp, fun x hx => by simp at hx, fun h => by simp at h⟩

set_option maxHeartbeats 4000000 in
set_option maxRecDepth 100000 in
theorem longs_any (HK : KnownOk) (n x p : Nat) (hn : n < 65536) (hx : x < 256) (hp : p < 65536) (w : World) (hv : Vars w) :
    Calls Tryd.prog 5 #[.int .u16 (n : Int), .int .u8 (x : Int), .int .u16 (p : Int)] w fun r w' => r = .returned (.bool true) ∧ Below w.heap.size w w' := by
  have HV := Lib.hid hv
  clear hv
  by_cases hl : n ≤ 5000 ∧ p ≤ n
  · obtain ⟨h1, h2⟩ := hl
    obtain ⟨w1, hmk, hown, hB⟩ := make_own .u16 n (by omega) w
    have HBuf : Hid (Buf w1 w.heap.size (fillL n 0 x)) := Lib.hid hown.bufAt
    have HB := Lib.hid hB
    clear hown hB
    go_enter Tryd.func5, Tryd.ntmps5
    go_wp2
    go_loopw [22] (fun i wr => ∃ k : Nat, k ≤ n ∧ i = .int .i64 k ∧ Hid (Buf wr w.heap.size (fillL n k x)) ∧ Hid (Below w.heap.size w wr)) (fun i _ => n - (intOf i).toNat)
    case atStart => exact ⟨0, by omega, rfl, HBuf, HB⟩
    case round =>
      clear HBuf HB
      obtain ⟨k, hk, rfl, HBuf, HB⟩ := hrel
      by_cases hkn : k < n
      · have hc := HBuf.out.cell k (by rw [fillL_length _ _ _ hk]; exact hkn)
        have hf := HBuf.out.unfrozen k
        have HBuf2 : Hid (Buf _ w.heap.size (fillL n (k + 1) x)) := Lib.hid (fillL_set n k x hkn ▸ HBuf.out.set k x (by rw [fillL_length _ _ _ hk]; exact hkn))
        have HB2 := Lib.hid (HB.out.setCell (p := ⟨w.heap.size, k, none⟩) (Nat.le_refl _) (.int .u8 (x : Int)))
        go_wp2
        go_roundw
        case rel => exact ⟨k + 1, by omega, by go_num, HBuf2, HB2⟩
        case measure => simp [intOf]; omega
      · obtain rfl : k = n := by omega
        have hlen := fillL_length k k x (Nat.le_refl _)
        have hbs : Bs (fillL k k x) := by
          intro y hy
          simp [fillL] at hy
          omega
        generalize fillL k k x = Z at *
        subst hlen
        have HR := Lib.hid (HBuf.out.rd hbs (by omega))
        have H9 := Lib.hid fun c W (h : RdB W (some ⟨w.heap.size, 0, none⟩) Z) => sum_any (some ⟨w.heap.size, 0, none⟩) Z c W h
        have H10 := Lib.hid fun c W (h : RdB W (some ⟨w.heap.size, 0, none⟩) Z) => rsum_any (some ⟨w.heap.size, 0, none⟩) Z c W h
        have HBw := Lib.hid (Below.refl wr.heap.size wr)
        by_cases hpe : Z.length = p
        · subst hpe
          have HT := HR
          have HD := Lib.hid (RdB_none wr (some ⟨w.heap.size, 0, none⟩))
          have H9t := H9
          have H11 := Lib.hid fun c W (h : RdB W (some ⟨w.heap.size, 0, none⟩) []) => update_any (sum Z) (update_lt _ _) (some ⟨w.heap.size, 0, none⟩) [] c W h
          have HU : update (sum Z) [] = sum Z := by
            have := update_append 0 (by decide) Z [] hbs
            rwa [List.append_nil] at this
          rw [HU] at H11
          generalize sum Z = N at *
          clear HU HBuf hbs
          go_wp2_with (first
            | (go_at_call 9; with_reducible refine (H9.out _ _ ?_).mono ?_; exact HR.out.below HBw.out (Nat.le_refl _); rintro e w3 ⟨rfl, hB⟩; have HBw : Hid (Below wr.heap.size wr w3) := Lib.hid (HBw.out.trans (hB.mono HBw.out.size)); clear hB))
          have HBw := Lib.hid HBw.out.drew
          refine wp_region_any (by kernel_rfl) ?_
          try (change wpAny _ _ _ _ _ _ _ (World.drew _))
          refine wpAny_take (i := 0) (v := ?_) rfl (by kernel_rfl) (by kernel_rfl) (by kernel_rfl) (fun _ _ _ h => h) (Or.inl ⟨by rfl, ?_⟩) ?_
          rotate_left
          · intro w; go_simp; with_reducible rfl
          go_simp
          refine wpAny_take (i := 1) (v := ?_) rfl (by kernel_rfl) (by kernel_rfl) (by kernel_rfl) (fun _ _ _ h => h) (Or.inl ⟨by rfl, ?_⟩) ?_
          rotate_left
          · intro w; go_simp; with_reducible rfl
          go_simp
          refine wpAny_ready (rs := [2]) (by kernel_rfl) (by simp) ?_
          refine AllReady.cons rfl (fun K hK => ?_) AllReady.nil
          go_simp
          go_wp2_with (go_at_call 10; refine (H10.out _ _ ?_).mono ?_; exact HR.out.below HBw.out (Nat.le_refl _); rintro e w3 ⟨rfl, rfl⟩)
          refine wpAny_take (i := 3) (v := ?_) rfl (by kernel_rfl) (by kernel_rfl) (by kernel_rfl) (fun _ _ _ h => h) (Or.inl ⟨by rfl, ?_⟩) ?_
          rotate_left
          · intro w; go_simp; with_reducible rfl
          go_simp
          refine wpAny_take (i := 4) (v := ?_) rfl (by kernel_rfl) (by kernel_rfl) (by kernel_rfl) (fun _ _ _ h => h) (Or.inl ⟨by rfl, ?_⟩) ?_
          rotate_left
          · intro w; go_simp; with_reducible rfl
          go_simp
          refine wpAny_take (i := 5) (v := ?_) rfl (by kernel_rfl) (by kernel_rfl) (by kernel_rfl) (fun _ _ _ h => h) (Or.inl ⟨by rfl, ?_⟩) ?_
          rotate_left
          · intro w; go_simp; with_reducible rfl
          go_simp
          refine wpAny_take (i := 6) (v := ?_) rfl (by kernel_rfl) (by kernel_rfl) (by kernel_rfl) (fun _ _ _ h => h) (Or.inl ⟨by rfl, ?_⟩) ?_
          rotate_left
          · intro w; go_simp; with_reducible rfl
          go_simp
          refine wpAny_take (i := 7) (v := ?_) rfl (by kernel_rfl) (by kernel_rfl) (by kernel_rfl) (fun _ _ _ h => h) (Or.inl ⟨by rfl, ?_⟩) ?_
          rotate_left
          · intro w; go_simp; with_reducible rfl
          go_simp
          refine wpAny_take (i := 9) (v := ?_) rfl (by kernel_rfl) (by kernel_rfl) (by kernel_rfl) (fun _ _ _ h => h) (Or.inl ⟨by rfl, ?_⟩) ?_
          rotate_left
          · intro w; go_simp; with_reducible rfl
          go_simp
          refine wpAny_take (i := 10) (v := ?_) rfl (by kernel_rfl) (by kernel_rfl) (by kernel_rfl) (fun _ _ _ h => h) (Or.inl ⟨by rfl, ?_⟩) ?_
          rotate_left
          · intro w; go_simp; with_reducible rfl
          go_simp
          refine wpAny_take (i := 11) (v := ?_) rfl (by kernel_rfl) (by kernel_rfl) (by kernel_rfl) (fun _ _ _ h => h) (Or.inl ⟨by rfl, ?_⟩) ?_
          rotate_left
          · intro w; go_simp; with_reducible rfl
          go_simp
          refine wpAny_take (i := 13) (v := ?_) rfl (by kernel_rfl) (by kernel_rfl) (by kernel_rfl) (fun _ _ _ h => h) (Or.inl ⟨by rfl, ?_⟩) ?_
          rotate_left
          · intro w; go_simp; with_reducible rfl
          go_simp
          refine wpAny_ready (rs := [8]) (by kernel_rfl) (by simp) ?_
          refine AllReady.cons rfl (fun K hK => ?_) AllReady.nil
          go_simp
          go_wp2_with (go_at_call 9; with_reducible refine (H9t.out _ _ ?_).mono ?_; exact HT.out.below HBw.out (Nat.le_refl _); rintro e w3 ⟨rfl, hB⟩; have HBw : Hid (Below wr.heap.size wr w3) := Lib.hid (HBw.out.trans (hB.mono HBw.out.size)); clear hB)
          refine wpAny_ready (rs := [12]) (by kernel_rfl) (by simp) ?_
          refine AllReady.cons rfl (fun K hK => ?_) AllReady.nil
          go_simp
          go_wp2_with (go_at_call 11; refine (H11.out _ _ ?_).mono ?_; exact HD.out.below HBw.out (Nat.le_refl _); rintro e w3 ⟨rfl, hB⟩; have HBw : Hid (Below wr.heap.size wr w3) := Lib.hid (HBw.out.trans (hB.mono HBw.out.size)); clear hB)
          refine wpAny_take (i := 14) (v := ?_) rfl (by kernel_rfl) (by kernel_rfl) (by kernel_rfl) (fun _ _ _ h => h) (Or.inl ⟨by rfl, ?_⟩) ?_
          rotate_left
          · intro w; go_simp; with_reducible rfl
          go_simp
          refine wpAny_take (i := 15) (v := ?_) rfl (by kernel_rfl) (by kernel_rfl) (by kernel_rfl) (fun _ _ _ h => h) (Or.inl ⟨by rfl, ?_⟩) ?_
          rotate_left
          · intro w; go_simp; with_reducible rfl
          go_simp
          refine wpAny_take (i := 16) (v := ?_) rfl (by kernel_rfl) (by kernel_rfl) (by kernel_rfl) (fun _ _ _ h => h) (Or.inl ⟨by rfl, ?_⟩) ?_
          rotate_left
          · intro w; go_simp; with_reducible rfl
          go_simp
          refine wpAny_ready (rs := [17]) (by kernel_rfl) (by simp) ?_
          refine AllReady.cons rfl (fun K hK => ?_) AllReady.nil
          go_simp
          go_wp2_with (go_at_call 8; refine (HK _ (HV.out.below (HB.out.trans (HBw.out.mono HB.out.size)) (Nat.le_refl _))).mono ?_; rintro e w3 ⟨rfl, hB⟩; have HBw : Hid (Below wr.heap.size wr w3) := Lib.hid (HBw.out.trans (hB.mono HBw.out.size)); clear hB)
          refine wpAny_take (i := 18) (v := ?_) rfl (by kernel_rfl) (by kernel_rfl) (by kernel_rfl) (fun _ _ _ h => h) (Or.inl ⟨by rfl, ?_⟩) ?_
          rotate_left
          · intro w; go_simp; with_reducible rfl
          go_simp
          refine wpAny_take (i := 19) (v := ?_) rfl (by kernel_rfl) (by kernel_rfl) (by kernel_rfl) (fun _ _ _ h => h) (Or.inl ⟨by rfl, ?_⟩) ?_
          rotate_left
          · intro w; go_simp; with_reducible rfl
          go_simp
          refine wpAny_done (by kernel_rfl) ?_ _
          go_wp2
          go_ret
          exact ⟨rfl, HB.out.trans (HBw.out.mono HB.out.size)⟩
        · have HT := Lib.hid (HR.out.take p)
          have HD := Lib.hid (HR.out.drop p)
          rw [Nat.zero_add] at HD
          have hlt : (Z.take p).length = p := by rw [List.length_take]; omega
          have hld : (Z.drop p).length = Z.length - p := by rw [List.length_drop]
          have HU := update_append 0 (by decide) (Z.take p) (Z.drop p) HT.out.bs
          rw [List.take_append_drop] at HU
          have HU2 : update (sum (Z.take p)) (Z.drop p) = sum Z := HU
          have H9t := Lib.hid fun c W (h : RdB W (some ⟨w.heap.size, 0, none⟩) (Z.take p)) => sum_any (some ⟨w.heap.size, 0, none⟩) (Z.take p) c W h
          have H11 := Lib.hid fun c W (h : RdB W (some ⟨w.heap.size, p, none⟩) (Z.drop p)) => update_any (sum (Z.take p)) (update_lt _ _) (some ⟨w.heap.size, p, none⟩) (Z.drop p) c W h
          rw [HU2] at H11
          rw [hlt] at H9t
          rw [hld] at H11
          generalize sum Z = N at *
          generalize sum (Z.take p) = T at *
          clear HU HU2 HBuf hbs hlt hld
          go_wp2_with (first
            | (go_at_call 9; with_reducible refine (H9.out _ _ ?_).mono ?_; exact HR.out.below HBw.out (Nat.le_refl _); rintro e w3 ⟨rfl, hB⟩; have HBw : Hid (Below wr.heap.size wr w3) := Lib.hid (HBw.out.trans (hB.mono HBw.out.size)); clear hB))
          have HBw := Lib.hid HBw.out.drew
          refine wp_region_any (by kernel_rfl) ?_
          try (change wpAny _ _ _ _ _ _ _ (World.drew _))
          refine wpAny_take (i := 0) (v := ?_) rfl (by kernel_rfl) (by kernel_rfl) (by kernel_rfl) (fun _ _ _ h => h) (Or.inl ⟨by rfl, ?_⟩) ?_
          rotate_left
          · intro w; go_simp; with_reducible rfl
          go_simp
          refine wpAny_take (i := 1) (v := ?_) rfl (by kernel_rfl) (by kernel_rfl) (by kernel_rfl) (fun _ _ _ h => h) (Or.inl ⟨by rfl, ?_⟩) ?_
          rotate_left
          · intro w; go_simp; with_reducible rfl
          go_simp
          refine wpAny_ready (rs := [2]) (by kernel_rfl) (by simp) ?_
          refine AllReady.cons rfl (fun K hK => ?_) AllReady.nil
          go_simp
          go_wp2_with (go_at_call 10; refine (H10.out _ _ ?_).mono ?_; exact HR.out.below HBw.out (Nat.le_refl _); rintro e w3 ⟨rfl, rfl⟩)
          refine wpAny_take (i := 3) (v := ?_) rfl (by kernel_rfl) (by kernel_rfl) (by kernel_rfl) (fun _ _ _ h => h) (Or.inl ⟨by rfl, ?_⟩) ?_
          rotate_left
          · intro w; go_simp; with_reducible rfl
          go_simp
          refine wpAny_take (i := 4) (v := ?_) rfl (by kernel_rfl) (by kernel_rfl) (by kernel_rfl) (fun _ _ _ h => h) (Or.inl ⟨by rfl, ?_⟩) ?_
          rotate_left
          · intro w; go_simp; with_reducible rfl
          go_simp
          refine wpAny_take (i := 5) (v := ?_) rfl (by kernel_rfl) (by kernel_rfl) (by kernel_rfl) (fun _ _ _ h => h) (Or.inl ⟨by rfl, ?_⟩) ?_
          rotate_left
          · intro w; go_simp; with_reducible rfl
          go_simp
          refine wpAny_take (i := 6) (v := ?_) rfl (by kernel_rfl) (by kernel_rfl) (by kernel_rfl) (fun _ _ _ h => h) (Or.inl ⟨by rfl, ?_⟩) ?_
          rotate_left
          · intro w; go_simp; with_reducible rfl
          go_simp
          refine wpAny_take (i := 7) (v := ?_) rfl (by kernel_rfl) (by kernel_rfl) (by kernel_rfl) (fun _ _ _ h => h) (Or.inl ⟨by rfl, ?_⟩) ?_
          rotate_left
          · intro w; go_simp; with_reducible rfl
          go_simp
          refine wpAny_take (i := 9) (v := ?_) rfl (by kernel_rfl) (by kernel_rfl) (by kernel_rfl) (fun _ _ _ h => h) (Or.inl ⟨by rfl, ?_⟩) ?_
          rotate_left
          · intro w; go_simp; with_reducible rfl
          go_simp
          refine wpAny_take (i := 10) (v := ?_) rfl (by kernel_rfl) (by kernel_rfl) (by kernel_rfl) (fun _ _ _ h => h) (Or.inl ⟨by rfl, ?_⟩) ?_
          rotate_left
          · intro w; go_simp; with_reducible rfl
          go_simp
          refine wpAny_take (i := 11) (v := ?_) rfl (by kernel_rfl) (by kernel_rfl) (by kernel_rfl) (fun _ _ _ h => h) (Or.inl ⟨by rfl, ?_⟩) ?_
          rotate_left
          · intro w; go_simp; with_reducible rfl
          go_simp
          refine wpAny_take (i := 13) (v := ?_) rfl (by kernel_rfl) (by kernel_rfl) (by kernel_rfl) (fun _ _ _ h => h) (Or.inl ⟨by rfl, ?_⟩) ?_
          rotate_left
          · intro w; go_simp; with_reducible rfl
          go_simp
          refine wpAny_ready (rs := [8]) (by kernel_rfl) (by simp) ?_
          refine AllReady.cons rfl (fun K hK => ?_) AllReady.nil
          go_simp
          go_wp2_with (go_at_call 9; with_reducible refine (H9t.out _ _ ?_).mono ?_; exact HT.out.below HBw.out (Nat.le_refl _); rintro e w3 ⟨rfl, hB⟩; have HBw : Hid (Below wr.heap.size wr w3) := Lib.hid (HBw.out.trans (hB.mono HBw.out.size)); clear hB)
          refine wpAny_ready (rs := [12]) (by kernel_rfl) (by simp) ?_
          refine AllReady.cons rfl (fun K hK => ?_) AllReady.nil
          go_simp
          go_wp2_with (go_at_call 11; refine (H11.out _ _ ?_).mono ?_; exact HD.out.below HBw.out (Nat.le_refl _); rintro e w3 ⟨rfl, hB⟩; have HBw : Hid (Below wr.heap.size wr w3) := Lib.hid (HBw.out.trans (hB.mono HBw.out.size)); clear hB)
          refine wpAny_take (i := 14) (v := ?_) rfl (by kernel_rfl) (by kernel_rfl) (by kernel_rfl) (fun _ _ _ h => h) (Or.inl ⟨by rfl, ?_⟩) ?_
          rotate_left
          · intro w; go_simp; with_reducible rfl
          go_simp
          refine wpAny_take (i := 15) (v := ?_) rfl (by kernel_rfl) (by kernel_rfl) (by kernel_rfl) (fun _ _ _ h => h) (Or.inl ⟨by rfl, ?_⟩) ?_
          rotate_left
          · intro w; go_simp; with_reducible rfl
          go_simp
          refine wpAny_take (i := 16) (v := ?_) rfl (by kernel_rfl) (by kernel_rfl) (by kernel_rfl) (fun _ _ _ h => h) (Or.inl ⟨by rfl, ?_⟩) ?_
          rotate_left
          · intro w; go_simp; with_reducible rfl
          go_simp
          refine wpAny_ready (rs := [17]) (by kernel_rfl) (by simp) ?_
          refine AllReady.cons rfl (fun K hK => ?_) AllReady.nil
          go_simp
          go_wp2_with (go_at_call 8; refine (HK _ (HV.out.below (HB.out.trans (HBw.out.mono HB.out.size)) (Nat.le_refl _))).mono ?_; rintro e w3 ⟨rfl, hB⟩; have HBw : Hid (Below wr.heap.size wr w3) := Lib.hid (HBw.out.trans (hB.mono HBw.out.size)); clear hB)
          refine wpAny_take (i := 18) (v := ?_) rfl (by kernel_rfl) (by kernel_rfl) (by kernel_rfl) (fun _ _ _ h => h) (Or.inl ⟨by rfl, ?_⟩) ?_
          rotate_left
          · intro w; go_simp; with_reducible rfl
          go_simp
          refine wpAny_take (i := 19) (v := ?_) rfl (by kernel_rfl) (by kernel_rfl) (by kernel_rfl) (fun _ _ _ h => h) (Or.inl ⟨by rfl, ?_⟩) ?_
          rotate_left
          · intro w; go_simp; with_reducible rfl
          go_simp
          refine wpAny_done (by kernel_rfl) ?_ _
          go_wp2
          go_ret
          exact ⟨rfl, HB.out.trans (HBw.out.mono HB.out.size)⟩
  · have hl2 : 5000 < n ∨ (n ≤ 5000 ∧ n < p) := by omega
    clear hl
    rcases hl2 with hl | ⟨hl, hl2⟩
    all_goals
      go_enter Tryd.func5, Tryd.ntmps5
      go_wp2_with (go_at_call 8; refine (HK _ HV.out).mono ?_; rintro e w1 ⟨rfl, hB⟩)
      go_ret
      exact ⟨rfl, hB⟩
end Go.Proofs.YtbmkjjoehancbaaDoor.ACrc
