/- The contract of the statement's function CrcHolds. -/
import Derived.Test.YtbmkjjoehancbaaDoorAL4
namespace Go.Proofs.YtbmkjjoehancbaaDoor.ACrc
open Go.RowKit Go.Proofs.YtbmkjjoehancbaaDoor.Crc

theorem sumBytes_inj {a b : Nat} (ha : a < 4294967296) (hb : b < 4294967296) (h : sumBytes a = sumBytes b) : a = b := by
  simp only [sumBytes, List.cons.injEq] at h
  omega
/-- one byte changed: Open answers the error -/
theorem openR_changed (Z : List Int) (hZ : Bs Z) (k : Nat) (hk : k < (Z ++ sumBytes (sum Z)).length) (y : Int) (hy : 0 ≤ y ∧ y < 256) (hne : (Z ++ sumBytes (sum Z)).getD k 0 ≠ y) :
    openR ((Z ++ sumBytes (sum Z)).set k y) = ([], 10) := by
  have hl : ((Z ++ sumBytes (sum Z)).set k y).length = Z.length + 4 := by rw [List.length_set, List.length_append, sumBytes_length]
  refine (openR_cases _ Z.length hl).2 fun h => ?_
  by_cases hkz : k < Z.length
  · rw [List.set_append_left _ _ hkz, List.take_append_of_le_length (by rw [List.length_set]; exact Nat.le_refl _), List.take_of_length_le (by rw [List.length_set]; exact Nat.le_refl _)] at h
    have h2 := sumBytes_inj (by unfold sum; exact update_lt _ _) (by unfold sum; exact update_lt _ _) (List.append_cancel_left h)
    refine sum_set Z hZ k hkz y hy ?_ h2
    simpa [List.getD_eq_getElem?_getD, hkz, List.getElem?_append_left hkz] using hne
  · rw [List.set_append_right _ _ (by omega)] at h
    rw [List.take_append_of_le_length (Nat.le_refl _), List.take_of_length_le (Nat.le_refl _)] at h
    have h3 := List.append_cancel_left h
    have hk2 : k - Z.length < (sumBytes (sum Z)).length := by rw [List.length_append] at hk; omega
    have h4 : (sumBytes (sum Z)).getD (k - Z.length) 0 = y := by
      rw [h3]
      simp [List.getD_eq_getElem?_getD, hk2]
    refine hne ?_
    rw [← h4]
    simp [List.getD_eq_getElem?_getD, List.getElem?_append_right (show Z.length ≤ k by omega)]

theorem Bs.getD {l : List Int} (h : Bs l) (j : Nat) (hj : j < l.length) : 0 ≤ l.getD j 0 ∧ l.getD j 0 < 256 := by
  rw [List.getD_eq_getElem?_getD, List.getElem?_eq_getElem hj]
  exact h _ (List.getElem_mem hj)
theorem Bs_set {l : List Int} (h : Bs l) (j : Nat) (y : Int) (hy : 0 ≤ y ∧ y < 256) : Bs (l.set j y) := fun x hx => by
  rcases List.mem_or_eq_of_mem_set hx with h1 | rfl
  · exact h x h1
  · exact hy
theorem RdB_none (w : World) (A : Option Addr) : RdB w A [] := ⟨by simp, fun x hx => by simp at hx, fun h => by simp at h⟩
theorem text_small (n : Nat) : (text n).size ≤ 281474976710656 := by unfold text; rw [strOfNums_size, hexL_length]; omega

set_option maxHeartbeats 4000000 in
set_option maxRecDepth 100000 in
theorem holds_any (HK : KnownOk) (A C : Option Addr) (xs ys : List Int) (c d : Nat) (at' by' : Nat) (ha : at' < 65536) (hb : by' < 256) (w : World) (hr : RdB w A xs) (hn : A = none → c = 0) (hz : RdB w C ys) (hn2 : C = none → d = 0) (hv : Vars w) :
    Calls Tryd.prog 7 #[.slice A xs.length c, .slice C ys.length d, .int .u16 (at' : Int), .int .u8 (by' : Int)] w fun r w' => r = .returned (.bool true) ∧ Below w.heap.size w w' := by
  have HV := Lib.hid hv
  have HR := Lib.hid hr
  have HN := Lib.hid hn
  have HZ := Lib.hid hz
  have HN2 := Lib.hid hn2
  have hlen := hr.len
  have hlen2 := hz.len
  clear hv hr hn hz hn2
  by_cases hl : xs.length ≤ 500 ∧ ys.length ≤ 500
  · obtain ⟨h1, h2⟩ := hl
    go_enter Tryd.func7, Tryd.ntmps7
    go_wp2_with (first
      | (at_builtin; refine wpList_append_bytes rfl (.const (.slice none 0 0)) (.tmp 21) rfl w.heap.size (.slice none 0 0) [] rfl (own_nil w _) A xs c rfl HR.out HN.out (by simp; omega) (Nat.le_refl _) ?_; intro v1 w1 hown1 hg1; have HO1 : Hid (Own w1 w.heap.size v1 xs) := Lib.hid hown1; have hB1 := Own.below (own_nil w w.heap.size) (Below.refl _ _) (Nat.le_refl _) hg1; have HB1 := Lib.hid hB1; clear hown1 hg1 hB1)
      | (at_builtin; refine wpList_append_bytes rfl (.tmp 22) (.tmp 23) rfl w.heap.size v1 xs rfl HO1.out C ys d rfl (HZ.out.below HB1.out (Nat.le_refl _)) HN2.out (by omega) HB1.out.size ?_; intro v2 w2 hown2 hg2; have hB2 := Own.below HO1.out HB1.out HB1.out.size hg2; have HO2 := Lib.hid hown2; have HB2 := Lib.hid hB2; clear hown2 hg2 hB2))
    have HZb := Lib.hid (Bs_append HR.out.bs HZ.out.bs)
    have HZl : Hid ((xs ++ ys).length = xs.length + ys.length) := Lib.hid (List.length_append ..)
    obtain ⟨A1, c1, rfl, hr1, hn1, hc1⟩ := Own.readsC HO2.out HZb.out (by rw [HZl.out]; omega)
    have HG := Lib.hid fun h0 : 0 < (xs ++ ys).length => HO2.out.buf h0
    have HRA := Lib.hid (HR.out.below HB2.out (Nat.le_refl _))
    have HRC := Lib.hid (HZ.out.below HB2.out (Nat.le_refl _))
    have HR1 := Lib.hid hr1
    have HN1 := Lib.hid hn1
    have HU : update (sum xs) ys = sum (xs ++ ys) := update_append 0 (by decide) xs ys HR.out.bs
    have H9a := Lib.hid fun W (h : RdB W A xs) => sum_any A xs c W h
    have H11 := Lib.hid fun W (h : RdB W C ys) => update_any (sum xs) (update_lt _ _) C ys d W h
    rw [HU] at H11
    clear HU HO1 HB1 hn1
    generalize sum xs = M at *
    have HOx := Lib.hid (openR_append (xs ++ ys))
    have HCh := Lib.hid (openR_changed (xs ++ ys) HZb.out)
    have HSet := Lib.hid (sum_set (xs ++ ys) HZb.out)
    have HXl : Hid (((xs ++ ys) ++ sumBytes (sum (xs ++ ys))).length = (xs ++ ys).length + 4) := Lib.hid (by rw [List.length_append, sumBytes_length])
    have HXb := Lib.hid (Bs_append HZb.out (sumBytes_bs (sum (xs ++ ys))))
    have H9 := Lib.hid fun Q (_ : Bs Q) W (h : RdB W A1 Q) => sum_any A1 Q c1 W h
    have H13 := Lib.hid fun W (h : RdB W A1 (xs ++ ys)) => append_any A1 (xs ++ ys) c1 W h HN1.out
    have H17 := Lib.hid fun W h => text_any (sum (xs ++ ys)) (by unfold sum; exact update_lt _ _) W h
    have H20 : Hid (∀ W, Vars W → Calls Tryd.prog 20 #[.string (text (sum (xs ++ ys))), .int .u32 (sum (xs ++ ys)), .int .i64 0] W fun e w' => e = .returned (.bool true) ∧ Below W.heap.size W w') := Lib.hid fun W h =>
      (parses_any (text (sum (xs ++ ys))) (text_small _) _ _ W h).mono fun e w' ⟨he, hB⟩ => ⟨by rw [he, parse_same, refParse_text _ (by unfold sum; exact update_lt _ _)]; simp, hB⟩
    have HSum : Hid (∀ Q : List Int, ∃ n : Nat, sum Q = n) := Lib.hid fun Q => ⟨_, rfl⟩
    generalize text (sum (xs ++ ys)) = T at *
    have H9z : Hid (∀ W, RdB W A1 (xs ++ ys) → Calls Tryd.prog 9 #[.slice A1 (xs ++ ys).length c1] W fun e w' => e = .returned (.int .u32 (sum (xs ++ ys) : Nat)) ∧ Below W.heap.size W w') := Lib.hid fun W h => sum_any A1 (xs ++ ys) c1 W h
    generalize (xs ++ ys) ++ sumBytes (sum (xs ++ ys)) = X at *
    generalize sum (xs ++ ys) = N at *
    generalize xs ++ ys = Z at *
    have HLen := Lib.hid (show Z.length ≤ 1000 by have := HZl.out; omega)
    go_wp2_with (first
      | (go_at_call 9; refine (H9z.out _ HR1.out).mono ?_; rintro e w3 ⟨rfl, hB⟩; have HB3 : Hid (Below w2.heap.size w2 w3) := Lib.hid hB; clear hB)
      | (go_at_call 13; refine (H13.out _ (HR1.out.below HB3.out (Nat.le_refl _))).mono ?_; rintro e w4 ⟨v, he, hown, hB⟩; obtain ⟨gx, cx, hv, hgx, hcx, hbuf⟩ := hown.buf (by rw [HXl.out]; omega); subst hv; subst he; have HGX := Lib.hid (Nat.le_trans HB3.out.size hgx); have HBuf := Lib.hid hbuf; have HCX := Lib.hid hcx; have HB3 : Hid (Below w2.heap.size w2 w4) := Lib.hid (HB3.out.trans (hB.mono HB3.out.size)); clear hB hown hgx hcx hbuf))
    have HBc := Lib.hid fun W (h : Below w2.heap.size w2 W) => HB2.out.trans (h.mono HB2.out.size)
    have HXr := Lib.hid (HBuf.out.rd HXb.out (by have := HXl.out; have := HLen.out; omega))
    have H15 : Hid (∀ W, RdB W (some ⟨gx, 0, none⟩) X → RdB W A1 Z → Calls Tryd.prog 15 #[.slice (some ⟨gx, 0, none⟩) (Z.length + 4) cx, .slice A1 Z.length c1, .int .i64 0] W fun e w' => e = .returned (.bool true) ∧ Below W.heap.size W w') := Lib.hid fun W h1 h2 => by
      have h := opens_any _ _ X Z cx c1 0 W h1 h2 HN1.out HCX.out
      rw [HXl.out] at h
      exact h.mono fun e w' ⟨he, hB⟩ => ⟨by rw [he, HOx.out]; simp, hB⟩
    have HBw := Lib.hid (Below.refl w4.heap.size w4)
    have HB34 := Lib.hid fun W (h : Below w4.heap.size w4 W) => HB3.out.trans (h.mono HB3.out.size)
    clear H9z H13 HR1
    have HRA := Lib.hid fun W h => HRA.out.below (HB34.out W h) (Nat.le_refl _)
    have HRC := Lib.hid fun W h => HRC.out.below (HB34.out W h) (Nat.le_refl _)
    have HR1 := Lib.hid fun W h => hr1.below (HB34.out W h) (Nat.le_refl _)
    have HXr := Lib.hid fun W h => HXr.out.below (B := w4.heap.size) (w1 := W) h (Nat.le_refl _)
    have HVw := Lib.hid fun W h => HV.out.below (HBc.out W (HB34.out W h)) (Nat.le_refl _)
    clear hr1
    have hZ2 : Z.length ≤ 1000 := HLen.out
    have hXl : X.length = Z.length + 4 := HXl.out
    by_cases hb0 : by' = 0
    · subst hb0
      go_wp2_with (first
        | (go_at_call 9; refine (H9a.out _ (HRA.out _ HBw.out)).mono ?_; rintro e w5 ⟨rfl, hB⟩; have HBw : Hid (Below w4.heap.size w4 w5) := Lib.hid (HBw.out.trans (hB.mono HBw.out.size)); clear hB)
        | (go_at_call 11; refine (H11.out _ (HRC.out _ HBw.out)).mono ?_; rintro e w5 ⟨rfl, hB⟩; have HBw : Hid (Below w4.heap.size w4 w5) := Lib.hid (HBw.out.trans (hB.mono HBw.out.size)); clear hB)
        | (go_at_call 17; refine (H17.out _ (HVw.out _ HBw.out).bruijn).mono ?_; rintro e w5 ⟨rfl, hB⟩; have HBw : Hid (Below w4.heap.size w4 w5) := Lib.hid (HBw.out.trans (hB.mono HBw.out.size)); clear hB)
        | (go_at_call 20; refine (H20.out _ (HVw.out _ HBw.out)).mono ?_; rintro e w5 ⟨rfl, hB⟩; have HBw : Hid (Below w4.heap.size w4 w5) := Lib.hid (HBw.out.trans (hB.mono HBw.out.size)); clear hB)
        | (go_at_call 15; with_reducible refine (H15.out _ (HXr.out _ HBw.out) (HR1.out _ HBw.out)).mono ?_; rintro e w5 ⟨rfl, hB⟩; have HBw : Hid (Below w4.heap.size w4 w5) := Lib.hid (HBw.out.trans (hB.mono HBw.out.size)); clear hB)
        | (go_at_call 8; refine (HK _ (HVw.out _ HBw.out)).mono ?_; rintro e w5 ⟨rfl, hB⟩; have HBw : Hid (Below w4.heap.size w4 w5) := Lib.hid (HBw.out.trans (hB.mono HBw.out.size)); clear hB))
      go_ret
      exact ⟨rfl, HBc.out _ (HB34.out _ HBw.out)⟩
    · have hbi : ((by' : Int) == 0) = false := by simp; omega
      have hbd : decide ((by' : Int) = 0) = false := by simp; omega
      have hk0 : (0 : Int) ≤ (at' : Int) % ((Z.length : Int) + 4) := Int.emod_nonneg _ (by omega)
      have hk1 : (at' : Int) % ((Z.length : Int) + 4) < (Z.length : Int) + 4 := Int.emod_lt_of_pos _ (by omega)
      have hkn : at' % (Z.length + 4) < Z.length + 4 := Nat.mod_lt _ (by omega)
      have HKx : Hid (at' % (Z.length + 4) < X.length) := Lib.hid (by omega)
      have hyb := Bs.getD HXb.out (at' % (Z.length + 4)) HKx.out
      obtain ⟨yv, hyv⟩ : ∃ v, X.getD (at' % (Z.length + 4)) 0 = v := ⟨_, rfl⟩
      rw [hyv] at hyb
      have HYv := Lib.hid hyv
      clear hyv
      go_wp2_with (first
        | (go_at_call 9; refine (H9a.out _ (HRA.out _ HBw.out)).mono ?_; rintro e w5 ⟨rfl, hB⟩; have HBw : Hid (Below w4.heap.size w4 w5) := Lib.hid (HBw.out.trans (hB.mono HBw.out.size)); clear hB)
        | (go_at_call 11; refine (H11.out _ (HRC.out _ HBw.out)).mono ?_; rintro e w5 ⟨rfl, hB⟩; have HBw : Hid (Below w4.heap.size w4 w5) := Lib.hid (HBw.out.trans (hB.mono HBw.out.size)); clear hB)
        | (go_at_call 17; refine (H17.out _ (HVw.out _ HBw.out).bruijn).mono ?_; rintro e w5 ⟨rfl, hB⟩; have HBw : Hid (Below w4.heap.size w4 w5) := Lib.hid (HBw.out.trans (hB.mono HBw.out.size)); clear hB)
        | (go_at_call 20; refine (H20.out _ (HVw.out _ HBw.out)).mono ?_; rintro e w5 ⟨rfl, hB⟩; have HBw : Hid (Below w4.heap.size w4 w5) := Lib.hid (HBw.out.trans (hB.mono HBw.out.size)); clear hB)
        | (go_at_call 15; with_reducible refine (H15.out _ (HXr.out _ HBw.out) (HR1.out _ HBw.out)).mono ?_; rintro e w5 ⟨rfl, hB⟩; have HBw : Hid (Below w4.heap.size w4 w5) := Lib.hid (HBw.out.trans (hB.mono HBw.out.size)); clear hB; have hcell := (HBuf.out.later HBw.out).cell (at' % (Z.length + 4)) HKx.out; have hfr := (HBuf.out.later HBw.out).unfrozen (at' % (Z.length + 4)); rw [HYv.out] at hcell))
      have hyr : 0 ≤ (yv + (by' : Int)) % 256 ∧ (yv + (by' : Int)) % 256 < 256 := ⟨Int.emod_nonneg _ (by omega), Int.emod_lt_of_pos _ (by omega)⟩
      have hyne : X.getD (at' % (Z.length + 4)) 0 ≠ (yv + (by' : Int)) % 256 := by rw [HYv.out]; omega
      have HR6 := Lib.hid (((HBuf.out.later HBw.out).set (at' % (Z.length + 4)) ((yv + (by' : Int)) % 256) HKx.out).rd (Bs_set HXb.out _ _ hyr) (by rw [List.length_set]; omega))
      have HCx := Lib.hid (HCh.out _ HKx.out _ hyr hyne)
      have H15n : Hid (∀ W, RdB W (some ⟨gx, 0, none⟩) (X.set (at' % (Z.length + 4)) ((yv + (by' : Int)) % 256)) → Calls Tryd.prog 15 #[.slice (some ⟨gx, 0, none⟩) (Z.length + 4) cx, .slice none 0 0, .int .i64 10] W fun e w' => e = .returned (.bool true) ∧ Below W.heap.size W w') := Lib.hid fun W h1 => by
        have h := opens_any _ none (X.set (at' % (Z.length + 4)) ((yv + (by' : Int)) % 256)) [] cx 0 10 W h1 (RdB_none _ _) (fun _ => rfl) (by rw [List.length_set]; exact HCX.out)
        rw [List.length_set, HXl.out] at h
        exact h.mono fun e w' ⟨he, hB⟩ => ⟨by rw [he, HCx.out]; simp, hB⟩
      have HB6 := Lib.hid ((HB34.out _ HBw.out).setCell (p := ⟨gx, at' % (Z.length + 4), none⟩) HGX.out (.int .u8 ((yv + (by' : Int)) % 256)))
      clear hcell hfr hyr hyne hyb HCh HCx HBuf HXr HR1 HRA HRC H9a H11 H17 H20 H15 HVw
      generalize w5.setCell ⟨gx, at' % (Z.length + 4), none⟩ (.int .u8 ((yv + (by' : Int)) % 256)) = w6 at *
      by_cases hz0 : Z.length = 0
      · go_wp2_with (first
          | (go_at_call 15; with_reducible refine (H15n.out _ HR6.out).mono ?_; rintro e w7 ⟨rfl, hB⟩; have HB7 : Hid (Below w2.heap.size w2 w7) := Lib.hid (HB6.out.trans (hB.mono HB6.out.size)); clear hB)
          | (go_at_call 8; refine (HK _ (HV.out.below (HBc.out _ HB7.out) (Nat.le_refl _))).mono ?_; rintro e w8 ⟨rfl, hB⟩; have HB8 : Hid (Below w2.heap.size w2 w8) := Lib.hid (HB7.out.trans (hB.mono HB7.out.size)); clear hB))
        go_ret
        exact ⟨rfl, HBc.out _ HB8.out⟩
      · obtain ⟨ga, cz, hEq, hga, hcz, hbuf⟩ := HG.out (by omega)
        simp only [Value.slice.injEq] at hEq
        obtain ⟨rfl, _, rfl⟩ := hEq
        have HBz := Lib.hid fun W (h : Below w2.heap.size w2 W) => hbuf.later h
        have HGA := Lib.hid hga
        have hzi : ((Z.length : Int) == 0) = false := by rw [beq_eq_false_iff_ne]; omega
        have hzp : (0 : Int) < (Z.length : Int) := by omega
        have hj0 : (0 : Int) ≤ (at' : Int) % (Z.length : Int) := Int.emod_nonneg _ (by omega)
        have hj1 : (at' : Int) % (Z.length : Int) < (Z.length : Int) := Int.emod_lt_of_pos _ (by omega)
        have HKz : Hid (at' % Z.length < Z.length) := Lib.hid (show at' % Z.length < Z.length from Nat.mod_lt _ (Nat.pos_of_ne_zero hz0))
        have hzb := Bs.getD HZb.out (at' % Z.length) HKz.out
        obtain ⟨zv, hzv⟩ : ∃ v, Z.getD (at' % Z.length) 0 = v := ⟨_, rfl⟩
        rw [hzv] at hzb
        have HZv := Lib.hid hzv
        clear hzv hbuf hga HG
        go_wp2_with (first
          | (go_at_call 15; with_reducible refine (H15n.out _ HR6.out).mono ?_; rintro e w7 ⟨rfl, hB⟩; have HB7 : Hid (Below w2.heap.size w2 w7) := Lib.hid (HB6.out.trans (hB.mono HB6.out.size)); clear hB; have hcell := (HBz.out _ HB7.out).cell (at' % Z.length) HKz.out; have hfr := (HBz.out _ HB7.out).unfrozen (at' % Z.length); rw [HZv.out] at hcell))
        have hyr : 0 ≤ (zv + (by' : Int)) % 256 ∧ (zv + (by' : Int)) % 256 < 256 := ⟨Int.emod_nonneg _ (by omega), Int.emod_lt_of_pos _ (by omega)⟩
        have hyne : Z[at' % Z.length]'HKz.out ≠ (zv + (by' : Int)) % 256 := by
          have h := HZv.out
          rw [List.getD_eq_getElem?_getD, List.getElem?_eq_getElem HKz.out] at h
          simp only [Option.getD_some] at h
          rw [h]
          omega
        have HR8 := Lib.hid (((HBz.out _ HB7.out).set (at' % Z.length) ((zv + (by' : Int)) % 256) HKz.out).rd (Bs_set HZb.out _ _ hyr) (by rw [List.length_set]; omega))
        have HS8 := Lib.hid (HSet.out _ HKz.out _ hyr hyne)
        have H9s : Hid (∀ W, RdB W (some ⟨ga, 0, none⟩) (Z.set (at' % Z.length) ((zv + (by' : Int)) % 256)) → Calls Tryd.prog 9 #[.slice (some ⟨ga, 0, none⟩) Z.length c1] W fun e w' => (∃ N2 : Nat, e = .returned (.int .u32 (N2 : Int)) ∧ N2 ≠ N) ∧ Below W.heap.size W w') := Lib.hid fun W h1 => by
          have h := H9.out _ h1.bs W h1
          rw [List.length_set] at h
          exact h.mono fun e w' ⟨he, hB⟩ => ⟨⟨_, he, HS8.out⟩, hB⟩
        have HB8 := Lib.hid ((HBc.out _ HB7.out).setCell (p := ⟨ga, at' % Z.length, none⟩) HGA.out (.int .u8 ((zv + (by' : Int)) % 256)))
        clear hcell hfr hyr hyne hzb HBz HB7 H15n HS8 HSet H9
        generalize w7.setCell ⟨ga, at' % Z.length, none⟩ (.int .u8 ((zv + (by' : Int)) % 256)) = w8 at *
        refine (H9s.out _ HR8.out).mono ?_
        rintro e w9 ⟨⟨N2, rfl, hN2⟩, hB⟩
        have HB9 : Hid (Below w.heap.size w w9) := Lib.hid (HB8.out.trans (hB.mono HB8.out.size))
        have hNi : ((N2 : Int) == (N : Int)) = false := by simp; omega
        have hNb : ((N2 : Int) != (N : Int)) = true := by simp; omega
        clear hB
        go_wp2_with (first
          | (go_at_call 8; refine (HK _ (HV.out.below HB9.out (Nat.le_refl _))).mono ?_; rintro e w10 ⟨rfl, hB⟩; have HB10 : Hid (Below w.heap.size w w10) := Lib.hid (HB9.out.trans (hB.mono HB9.out.size)); clear hB))
        go_ret
        exact ⟨rfl, HB10.out⟩
  · have hl2 : 500 < xs.length ∨ (xs.length ≤ 500 ∧ 500 < ys.length) := by omega
    clear hl
    rcases hl2 with hl | ⟨hl, hl2⟩
    all_goals
      go_enter Tryd.func7, Tryd.ntmps7
      go_wp2_with (go_at_call 8; refine (HK _ HV.out).mono ?_; rintro e w1 ⟨rfl, hB⟩)
      go_ret
      exact ⟨rfl, hB⟩
end Go.Proofs.YtbmkjjoehancbaaDoor.ACrc
