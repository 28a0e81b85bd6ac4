/- The contract of the statement's function CrcOpens. -/
import Derived.Test.YtbmkjjoehancbaaDoorABf
import Derived.Deep.RegionHeld3
namespace Go.Proofs.YtbmkjjoehancbaaDoor.ACrc
open Go.RowKit Go.Proofs.YtbmkjjoehancbaaDoor.Crc

theorem openR_append (xs : List Int) : openR (xs ++ sumBytes (sum xs)) = (xs, 0) := by
  have hl : (xs ++ sumBytes (sum xs)).length = xs.length + 4 := by rw [List.length_append, sumBytes_length]
  have h := (openR_cases (xs ++ sumBytes (sum xs)) xs.length hl).1
  rw [show (xs ++ sumBytes (sum xs)).take xs.length = xs from by simp] at h
  exact h rfl
theorem ropen_any (A : Option Addr) (xs : List Int) (c : Nat) (w : World) (hr : RdB w A xs) (hc : xs.length ≤ c) :
    Calls Tryd.prog 16 #[.slice A xs.length c] w fun e w' => (∃ A2 c2, e = .returned (.tuple #[.slice A2 (openR xs).1.length c2, .int .i64 (openR xs).2]) ∧ RdB w A2 (openR xs).1 ∧ (A2 = none → c2 = 0)) ∧ Below w.heap.size w w' := by
  by_cases hl : xs.length < 4
  · refine (ropen_short A xs c w hl).mono ?_
    rintro e w' ⟨rfl, rfl⟩
    have e : openR xs = ([], 4) := by unfold openR; rw [if_pos hl]
    rw [e]
    exact ⟨⟨none, 0, rfl, ⟨by simp, fun x hx => by simp at hx, fun h => by simp at h⟩, fun _ => rfl⟩, Below.refl _ _⟩
  · obtain ⟨b, off, rfl, _⟩ := hr.cells (by omega)
    exact ropen_long b off xs c w hr (by omega) hc

set_option maxHeartbeats 4000000 in
set_option maxRecDepth 100000 in
theorem copens_any (HK : KnownOk) (A C : Option Addr) (xs zs : List Int) (c d : Nat) (w : World) (hr : RdB w A xs) (hn : A = none → c = 0) (_hc : xs.length ≤ c) (hz : RdB w C zs) (_hn2 : C = none → d = 0) (hd : zs.length ≤ d) (hv : Vars w) :
    Calls Tryd.prog 4 #[.slice A xs.length c, .slice C zs.length d] w fun r w' => r = .returned (.bool true) ∧ Below w.heap.size w w' := by
  have HV := Lib.hid hv
  have HR := Lib.hid hr
  have HN := Lib.hid hn
  have HZ := Lib.hid hz
  have hlen := hr.len
  have hlen2 := hz.len
  clear hv hr hn hz
  by_cases hl : xs.length ≤ 300 ∧ zs.length ≤ 300
  · obtain ⟨h1, h2⟩ := hl
    obtain ⟨w1, hmk, hown, hB⟩ := make_none .i64 .i64 (xs.length + 9) (by omega) w
    rw [show ((xs.length + 9 : Nat) : Int) = (xs.length : Int) + 9 from by omega] at hmk
    have HO := Lib.hid hown
    have HB := Lib.hid hB
    clear hown hB
    go_enter Tryd.func4, Tryd.ntmps4
    go_wp2_with (first | (at_builtin; refine wpList_append_bytes rfl (.tmp 23) (.tmp 24) rfl w.heap.size (.slice (some ⟨w.heap.size, 0, none⟩) 0 (xs.length + 9)) [] rfl HO.out A xs c rfl (HR.out.below HB.out (Nat.le_refl _)) HN.out (by simp; omega) HB.out.size ?_; intro v1 w2 hown1 hg1))
    have hB2 := Own.below HO.out HB.out HB.out.size hg1
    simp only [List.nil_append] at hown1
    obtain ⟨A1, c1, rfl, hr1, hn1, hc1⟩ := Own.readsC hown1 HR.out.bs hlen
    clear HO HB hown1 hg1 hmk
    have HB := Lib.hid hB2
    have HR0 := Lib.hid (HR.out.below hB2 (Nat.le_refl _))
    have HZ0 := Lib.hid (HZ.out.below hB2 (Nat.le_refl _))
    have HR1 := Lib.hid hr1
    have HN1 := Lib.hid hn1
    have HXl : Hid ((xs ++ sumBytes (sum xs)).length = xs.length + 4) := Lib.hid (by rw [List.length_append, sumBytes_length])
    have HXb := Lib.hid (Bs_append hr1.bs (sumBytes_bs (sum xs)))
    have H13 := Lib.hid fun W (h : RdB W A1 xs) => append_any A1 xs c1 W h hn1
    have H14 := Lib.hid fun W (h : RdB W A xs) => rappend_any A xs c W h HN.out
    have HX := Lib.hid (openR_append xs)
    generalize xs ++ sumBytes (sum xs) = X at *
    clear hB2 hr1 hn1
    go_wp2_with (first
      | (go_at_call 13; refine (H13.out _ HR1.out).mono ?_; rintro e w3 ⟨v, rfl, hown, hB⟩))
    obtain ⟨gx, cx, rfl, hgx, hcx, hbuf⟩ := hown.buf (by rw [HXl.out]; omega)
    have hBx := Lib.hid hB
    have HBuf := Lib.hid hbuf
    have HXr := Lib.hid (hbuf.rd HXb.out (by rw [HXl.out]; omega))
    have H15 : Hid (∀ W, RdB W (some ⟨gx, 0, none⟩) X → RdB W A xs → Calls Tryd.prog 15 #[.slice (some ⟨gx, 0, none⟩) X.length cx, .slice A xs.length c, .int .i64 0] W fun e w' => e = .returned (.bool true) ∧ Below W.heap.size W w') := Lib.hid fun W h1 h2 =>
      (opens_any _ _ X xs cx c 0 W h1 h2 HN.out hcx).mono fun e w' ⟨he, hB⟩ => ⟨by rw [he, HX.out]; simp, hB⟩
    have HR3 := Lib.hid (HR0.out.below hB (Nat.le_refl _))
    have HS := Lib.hid fun W (h : Below w3.heap.size w3 W) => (HXr.out.below h (Nat.le_refl _)).string (c := cx) (fun h => by cases h)
    have HBw := Lib.hid (Below.refl w3.heap.size w3).drew
    clear hown hB hbuf
    refine wp_region_noPanic ?_
    refine wp_region_held_drew (S := (fun W' => (convert 23 9 (.slice (some ⟨gx, 0, none⟩) X.length cx)).run Tryd.prog W' = .ok (.string (strOfNums X)) W')) (by kernel_rfl) ?_ (fun hHeld0 => ?_)
    · (try dsimp only); exact HS.out _ HBw.out
    refine wpAnyH_take (i := 0) (v := ?_) rfl (by kernel_rfl) (by kernel_rfl) (by kernel_rfl) (fun _ _ _ h => h) (Or.inl ⟨by rfl, ?_⟩) (by assumption) ?_
    rotate_left
    · intro w hSw; (try dsimp only at hSw); go_simp; with_reducible rfl
    try simp only [Act.put, List.getElem_toArray, List.getElem_cons_zero, List.setIfInBounds_toArray, List.set_cons_zero, List.set_cons_succ]
    refine wpAnyH_take (i := 1) (v := ?_) rfl (by kernel_rfl) (by kernel_rfl) (by kernel_rfl) (fun _ _ _ h => h) (Or.inl ⟨by rfl, ?_⟩) (by assumption) ?_
    rotate_left
    · intro w hSw; (try dsimp only at hSw); go_simp; with_reducible rfl
    try simp only [Act.put, List.getElem_toArray, List.getElem_cons_zero, List.getElem_cons_succ, List.setIfInBounds_toArray, List.set_cons_zero, List.set_cons_succ]
    refine wpAnyH_take (i := 2) (v := ?_) rfl (by kernel_rfl) (by kernel_rfl) (by kernel_rfl) (fun _ _ _ h => h) (Or.inl ⟨by rfl, ?_⟩) (by assumption) ?_
    rotate_left
    · intro w hSw; (try dsimp only at hSw); go_simp; with_reducible rfl
    try simp only [Act.put, List.getElem_toArray, List.getElem_cons_zero, List.getElem_cons_succ, List.setIfInBounds_toArray, List.set_cons_zero, List.set_cons_succ]
    refine wpAnyH_ready (rs := [3]) (by kernel_rfl) (by simp) ?_
    refine AllReadyH.cons rfl (fun K hK => ?_) AllReadyH.nil
    go_simp
    (go_at_call 14; refine (H14.out _ ?_).mono ?_; exact HR3.out.below HBw.out (Nat.le_refl _); rintro e w4 ⟨v, rfl, hown, hB⟩; obtain ⟨A2, c2, rfl, hr2, hn2⟩ := hown.reads HXb.out (by rw [HXl.out]; omega); have hcv := hr2.string (c := c2) hn2; have HBw : Hid (Below w3.heap.size w3 w4) := Lib.hid (HBw.out.trans (hB.mono HBw.out.size)); clear hown hr2 hn2 hB)
    go_wp2_with fail
    refine hK.out _ _ ?_ (fun hHeld1 => ?_)
    · (try dsimp only); exact HS.out _ HBw.out
    clear hHeld0 hK K
    try simp only [Act.put, List.getElem_toArray, List.getElem_cons_zero, List.getElem_cons_succ, List.setIfInBounds_toArray, List.set_cons_zero, List.set_cons_succ]
    refine wpAnyH_ready (rs := [4]) (by kernel_rfl) (by simp) ?_
    refine AllReadyH.cons rfl (fun K hK => ?_) AllReadyH.nil
    go_simp
    refine hK.out _ _ ?_ (fun hHeld2 => ?_)
    · (try dsimp only); exact HS.out _ HBw.out
    clear hHeld1 hK K
    try simp only [Act.put, List.getElem_toArray, List.getElem_cons_zero, List.getElem_cons_succ, List.setIfInBounds_toArray, List.set_cons_zero, List.set_cons_succ]
    refine wpAnyH_take (i := 5) (v := ?_) rfl (by kernel_rfl) (by kernel_rfl) (by kernel_rfl) (fun _ _ _ h => h) (Or.inl ⟨by rfl, ?_⟩) (by assumption) ?_
    rotate_left
    · intro w hSw; (try dsimp only at hSw); go_simp; with_reducible rfl
    try simp only [Act.put, List.getElem_toArray, List.getElem_cons_zero, List.getElem_cons_succ, List.setIfInBounds_toArray, List.set_cons_zero, List.set_cons_succ]
    refine wpAnyH_take (i := 6) (v := ?_) rfl (by kernel_rfl) (by kernel_rfl) (by kernel_rfl) (fun _ _ _ h => h) (Or.inl ⟨by rfl, ?_⟩) (by assumption) ?_
    rotate_left
    · intro w hSw; (try dsimp only at hSw); go_simp; with_reducible rfl
    try simp only [Act.put, List.getElem_toArray, List.getElem_cons_zero, List.getElem_cons_succ, List.setIfInBounds_toArray, List.set_cons_zero, List.set_cons_succ]
    refine wpAnyH_take (i := 7) (v := ?_) rfl (by kernel_rfl) (by kernel_rfl) (by kernel_rfl) (fun _ _ _ h => h) (Or.inl ⟨by rfl, ?_⟩) (by assumption) ?_
    rotate_left
    · intro w hSw; (try dsimp only at hSw); go_simp; with_reducible rfl
    try simp only [Act.put, List.getElem_toArray, List.getElem_cons_zero, List.getElem_cons_succ, List.setIfInBounds_toArray, List.set_cons_zero, List.set_cons_succ]
    refine wpAnyH_take (i := 8) (v := ?_) rfl (by kernel_rfl) (by kernel_rfl) (by kernel_rfl) (fun _ _ _ h => h) (Or.inl ⟨by rfl, ?_⟩) (by assumption) ?_
    rotate_left
    · intro w hSw; (try dsimp only at hSw); go_simp; with_reducible rfl
    try simp only [Act.put, List.getElem_toArray, List.getElem_cons_zero, List.getElem_cons_succ, List.setIfInBounds_toArray, List.set_cons_zero, List.set_cons_succ]
    refine wpAnyH_ready (rs := [9]) (by kernel_rfl) (by simp) ?_
    refine AllReadyH.cons rfl (fun K hK => ?_) AllReadyH.nil
    go_simp
    (go_at_call 15; refine (H15.out _ ?_ ?_).mono ?_; exact HXr.out.below HBw.out (Nat.le_refl _); exact HR3.out.below HBw.out (Nat.le_refl _); rintro e w4 ⟨rfl, hB⟩; have HBw : Hid (Below w3.heap.size w3 w4) := Lib.hid (HBw.out.trans (hB.mono HBw.out.size)); clear hB)
    go_wp2_with fail
    refine hK.out _ _ ?_ (fun hHeld3 => ?_)
    · (try dsimp only); exact HS.out _ HBw.out
    clear hHeld2 hK K
    try simp only [Act.put, List.getElem_toArray, List.getElem_cons_zero, List.getElem_cons_succ, List.setIfInBounds_toArray, List.set_cons_zero, List.set_cons_succ]
    refine wpAnyH_take (i := 10) (v := ?_) rfl (by kernel_rfl) (by kernel_rfl) (by kernel_rfl) (fun _ _ _ h => h) (Or.inl ⟨by rfl, ?_⟩) (by assumption) ?_
    rotate_left
    · intro w hSw; (try dsimp only at hSw); go_simp; with_reducible rfl
    try simp only [Act.put, List.getElem_toArray, List.getElem_cons_zero, List.getElem_cons_succ, List.setIfInBounds_toArray, List.set_cons_zero, List.set_cons_succ]
    refine wpAnyH_take (i := 11) (v := ?_) rfl (by kernel_rfl) (by kernel_rfl) (by kernel_rfl) (fun _ _ _ h => h) (Or.inl ⟨by rfl, ?_⟩) (by assumption) ?_
    rotate_left
    · intro w hSw; (try dsimp only at hSw); go_simp; with_reducible rfl
    try simp only [Act.put, List.getElem_toArray, List.getElem_cons_zero, List.getElem_cons_succ, List.setIfInBounds_toArray, List.set_cons_zero, List.set_cons_succ]
    refine wpAnyH_done (by kernel_rfl) ?_ _
    refine NoPanic.normal ?_
    have HR1b := Lib.hid ((HR1.out.below hBx.out (Nat.le_refl _)).below HBw.out (Nat.le_refl _))
    go_wp2_with (first
      | (go_at_call 13; refine (H13.out _ HR1b.out).mono ?_; rintro e w5 ⟨v, rfl, hown, hB⟩))
    obtain ⟨gy, cy, rfl, hgy, hcy, hbufy⟩ := hown.buf (by rw [HXl.out]; omega)
    have HW2 := Lib.hid (hBx.out.trans ((HBw.out.mono hBx.out.size).trans (hB.mono (Nat.le_trans hBx.out.size HBw.out.size))))
    have HBY := Lib.hid hbufy
    have HBX := Lib.hid ((HBuf.out.later HBw.out).later hB)
    have hne : gx ≠ gy := by have := HBuf.out.lt; have := HBw.out.size; omega
    have HNE := Lib.hid hne
    have HGX := Lib.hid hgx
    clear hown hB hbufy hgx hgy hne HBw hBx HBuf HS HXr H13 H15 HR1b HR3
    go_loopw [44] (fun i wr => ∃ k : Nat, k ≤ X.length ∧ i = .int .i64 k ∧ ∃ Z : List Int, Z.length = X.length ∧ Hid (Buf wr gx Z) ∧ Hid (Buf wr gy X) ∧ Hid (Below w2.heap.size w2 wr)) (fun i _ => X.length - (intOf i).toNat)
    case atStart => exact ⟨0, by omega, rfl, X, rfl, HBX, HBY, HW2⟩
    case round =>
      clear HBX HBY HW2
      obtain ⟨k, hk, rfl, Z, hZ, HBX, HBY, HW2⟩ := hrel
      by_cases hkn : k < X.length
      · have hk0 : (0 : Int) ≤ (k : Int) := by omega
        have hk1 : (k : Int) < (X.length : Int) := by omega
        have hkb : (k : Int) < 304 := by have := HXl.out; omega
        have hcell := HBX.out.cell k (by omega)
        have hfr := HBX.out.unfrozen k
        have HS1 := Lib.hid fun v : Int => HBX.out.set k v (by omega)
        have HS2 := Lib.hid fun v : Int => HBY.out.other (g' := gx) (fun e => HNE.out e.symm) k (.int .u8 v)
        have HS3 := Lib.hid fun v : Int => HW2.out.setCell (p := ⟨gx, k, none⟩) HGX.out (.int .u8 v)
        generalize Z.getD k 0 = z at *
        go_wp2
        go_roundw
        case rel => exact ⟨k + 1, by omega, by go_num, Z.set k _, by rw [List.length_set]; exact hZ, HS1.out _, HS2.out _, HS3.out _⟩
        case measure => simp [intOf]; omega
      · obtain rfl : k = X.length := by omega
        have HY := Lib.hid (HBY.out.rd HXb.out (by rw [HXl.out]; omega))
        have H16 := Lib.hid fun W (h : RdB W C zs) => ropen_any C zs d W h hd
        have hoz := openR_bs zs HZ0.out.bs
        have H15 : Hid (∀ A2 c2 W, RdB W A2 (openR zs).1 → (A2 = none → c2 = 0) → RdB W C zs → Calls Tryd.prog 15 #[.slice C zs.length d, .slice A2 (openR zs).1.length c2, .int .i64 (openR zs).2] W fun e w' => e = .returned (.bool true) ∧ Below W.heap.size W w') := Lib.hid fun A2 c2 W h1 h2 h3 =>
          (opens_any C A2 zs (openR zs).1 d c2 (openR zs).2 W h3 h1 h2 hd).mono fun e w' ⟨he, hB⟩ => ⟨by rw [he]; simp, hB⟩
        generalize openR zs = O at *
        obtain ⟨O1, O2⟩ := O
        simp only at H15 H16
        clear HBX HBY hoz
        have HBw := Lib.hid (Below.refl wr.heap.size wr)
        go_wp2_with (first
          | (go_at_call 16; refine (H16.out _ (HZ0.out.below HW2.out (Nat.le_refl _))).mono ?_; rintro e w6 ⟨⟨A3, c3, rfl, hr3, hn3⟩, hB⟩; have HO := Lib.hid (hr3.below hB (Nat.le_refl _)); have HN3 := Lib.hid hn3; have HBw : Hid (Below wr.heap.size wr w6) := Lib.hid hB; clear hr3 hn3 hB))
        have HQ := Lib.hid (HW2.out.trans (HBw.out.mono HW2.out.size))
        have HC1 := Lib.hid (HR1.out.below HQ.out (Nat.le_refl _))
        have HC0 := Lib.hid (HR0.out.below HQ.out (Nat.le_refl _))
        have HCZ := Lib.hid (HZ0.out.below HQ.out (Nat.le_refl _))
        have HCY := Lib.hid (HY.out.below HBw.out (Nat.le_refl _))
        have HS := Lib.hid fun W (h : Below w6.heap.size w6 W) => And.intro ((HC1.out.below h (Nat.le_refl _)).string (c := c1) HN1.out) (And.intro ((HC0.out.below h (Nat.le_refl _)).string (c := c) HN.out) ((HCY.out.below h (Nat.le_refl _)).string (c := cy) (fun h => by cases h)))
        have HB6 := Lib.hid (Below.refl w6.heap.size w6).drew
        refine wp_region_noPanic ?_
        refine wp_region_held_drew (S := (fun W' => (convert 23 9 (.slice A1 xs.length c1)).run Tryd.prog W' = .ok (.string (strOfNums xs)) W' ∧ (convert 23 9 (.slice A xs.length c)).run Tryd.prog W' = .ok (.string (strOfNums xs)) W' ∧ (convert 23 9 (.slice (some ⟨gy, 0, none⟩) X.length cy)).run Tryd.prog W' = .ok (.string (strOfNums X)) W')) (by kernel_rfl) ?_ (fun hHeld0 => ?_)
        · (try dsimp only); exact HS.out _ HB6.out
        refine wpAnyH_take (i := 0) (v := ?_) rfl (by kernel_rfl) (by kernel_rfl) (by kernel_rfl) (fun _ _ _ h => h) (Or.inl ⟨by rfl, ?_⟩) (by assumption) ?_
        rotate_left
        · intro w hSw; (try dsimp only at hSw); go_simp; with_reducible rfl
        try simp only [Act.put, List.getElem_toArray, List.getElem_cons_zero, List.setIfInBounds_toArray, List.set_cons_zero, List.set_cons_succ]
        refine wpAnyH_take (i := 1) (v := ?_) rfl (by kernel_rfl) (by kernel_rfl) (by kernel_rfl) (fun _ _ _ h => h) (Or.inl ⟨by rfl, ?_⟩) (by assumption) ?_
        rotate_left
        · intro w hSw; (try dsimp only at hSw); go_simp; with_reducible rfl
        try simp only [Act.put, List.getElem_toArray, List.getElem_cons_zero, List.getElem_cons_succ, List.setIfInBounds_toArray, List.set_cons_zero, List.set_cons_succ]
        refine wpAnyH_take (i := 2) (v := ?_) rfl (by kernel_rfl) (by kernel_rfl) (by kernel_rfl) (fun _ _ _ h => h) (Or.inl ⟨by rfl, ?_⟩) (by assumption) ?_
        rotate_left
        · intro w hSw; (try dsimp only at hSw); go_simp; with_reducible rfl
        try simp only [Act.put, List.getElem_toArray, List.getElem_cons_zero, List.getElem_cons_succ, List.setIfInBounds_toArray, List.set_cons_zero, List.set_cons_succ]
        refine wpAnyH_take (i := 3) (v := ?_) rfl (by kernel_rfl) (by kernel_rfl) (by kernel_rfl) (fun _ _ _ h => h) (Or.inl ⟨by rfl, ?_⟩) (by assumption) ?_
        rotate_left
        · intro w hSw; (try dsimp only at hSw); go_simp; with_reducible rfl
        try simp only [Act.put, List.getElem_toArray, List.getElem_cons_zero, List.getElem_cons_succ, List.setIfInBounds_toArray, List.set_cons_zero, List.set_cons_succ]
        refine wpAnyH_take (i := 4) (v := ?_) rfl (by kernel_rfl) (by kernel_rfl) (by kernel_rfl) (fun _ _ _ h => h) (Or.inl ⟨by rfl, ?_⟩) (by assumption) ?_
        rotate_left
        · intro w hSw; (try dsimp only at hSw); go_simp; with_reducible rfl
        try simp only [Act.put, List.getElem_toArray, List.getElem_cons_zero, List.getElem_cons_succ, List.setIfInBounds_toArray, List.set_cons_zero, List.set_cons_succ]
        refine wpAnyH_take (i := 5) (v := ?_) rfl (by kernel_rfl) (by kernel_rfl) (by kernel_rfl) (fun _ _ _ h => h) (Or.inl ⟨by rfl, ?_⟩) (by assumption) ?_
        rotate_left
        · intro w hSw; (try dsimp only at hSw); go_simp; with_reducible rfl
        try simp only [Act.put, List.getElem_toArray, List.getElem_cons_zero, List.getElem_cons_succ, List.setIfInBounds_toArray, List.set_cons_zero, List.set_cons_succ]
        refine wpAnyH_take (i := 6) (v := ?_) rfl (by kernel_rfl) (by kernel_rfl) (by kernel_rfl) (fun _ _ _ h => h) (Or.inl ⟨by rfl, ?_⟩) (by assumption) ?_
        rotate_left
        · intro w hSw; (try dsimp only at hSw); go_simp; with_reducible rfl
        try simp only [Act.put, List.getElem_toArray, List.getElem_cons_zero, List.getElem_cons_succ, List.setIfInBounds_toArray, List.set_cons_zero, List.set_cons_succ]
        refine wpAnyH_take (i := 7) (v := ?_) rfl (by kernel_rfl) (by kernel_rfl) (by kernel_rfl) (fun _ _ _ h => h) (Or.inl ⟨by rfl, ?_⟩) (by assumption) ?_
        rotate_left
        · intro w hSw; (try dsimp only at hSw); go_simp; with_reducible rfl
        try simp only [Act.put, List.getElem_toArray, List.getElem_cons_zero, List.getElem_cons_succ, List.setIfInBounds_toArray, List.set_cons_zero, List.set_cons_succ]
        refine wpAnyH_take (i := 8) (v := ?_) rfl (by kernel_rfl) (by kernel_rfl) (by kernel_rfl) (fun _ _ _ h => h) (Or.inl ⟨by rfl, ?_⟩) (by assumption) ?_
        rotate_left
        · intro w hSw; (try dsimp only at hSw); go_simp; with_reducible rfl
        try simp only [Act.put, List.getElem_toArray, List.getElem_cons_zero, List.getElem_cons_succ, List.setIfInBounds_toArray, List.set_cons_zero, List.set_cons_succ]
        refine wpAnyH_ready (rs := [9]) (by kernel_rfl) (by simp) ?_
        refine AllReadyH.cons rfl (fun K hK => ?_) AllReadyH.nil
        go_simp
        (go_at_call 14; refine (H14.out _ ?_).mono ?_; exact HC0.out.below HB6.out (Nat.le_refl _); rintro e w4 ⟨v, rfl, hown, hB⟩; obtain ⟨A4, c4, rfl, hr2, hn2⟩ := hown.reads HXb.out (by rw [HXl.out]; omega); have hcv := hr2.string (c := c4) hn2; have HB6 : Hid (Below w6.heap.size w6 w4) := Lib.hid (HB6.out.trans (hB.mono HB6.out.size)); clear hown hr2 hn2 hB)
        go_wp2_with fail
        refine hK.out _ _ ?_ (fun hHeld1 => ?_)
        · (try dsimp only); exact HS.out _ HB6.out
        clear hHeld0 hK K
        try simp only [Act.put, List.getElem_toArray, List.getElem_cons_zero, List.getElem_cons_succ, List.setIfInBounds_toArray, List.set_cons_zero, List.set_cons_succ]
        refine wpAnyH_ready (rs := [10]) (by kernel_rfl) (by simp) ?_
        refine AllReadyH.cons rfl (fun K hK => ?_) AllReadyH.nil
        go_simp
        refine hK.out _ _ ?_ (fun hHeld2 => ?_)
        · (try dsimp only); exact HS.out _ HB6.out
        clear hHeld1 hK K
        try simp only [Act.put, List.getElem_toArray, List.getElem_cons_zero, List.getElem_cons_succ, List.setIfInBounds_toArray, List.set_cons_zero, List.set_cons_succ]
        refine wpAnyH_take (i := 11) (v := ?_) rfl (by kernel_rfl) (by kernel_rfl) (by kernel_rfl) (fun _ _ _ h => h) (Or.inl ⟨by rfl, ?_⟩) (by assumption) ?_
        rotate_left
        · intro w hSw; (try dsimp only at hSw); go_simp; with_reducible rfl
        try simp only [Act.put, List.getElem_toArray, List.getElem_cons_zero, List.getElem_cons_succ, List.setIfInBounds_toArray, List.set_cons_zero, List.set_cons_succ]
        refine wpAnyH_take (i := 12) (v := ?_) rfl (by kernel_rfl) (by kernel_rfl) (by kernel_rfl) (fun _ _ _ h => h) (Or.inl ⟨by rfl, ?_⟩) (by assumption) ?_
        rotate_left
        · intro w hSw; (try dsimp only at hSw); go_simp; with_reducible rfl
        try simp only [Act.put, List.getElem_toArray, List.getElem_cons_zero, List.getElem_cons_succ, List.setIfInBounds_toArray, List.set_cons_zero, List.set_cons_succ]
        refine wpAnyH_take (i := 13) (v := ?_) rfl (by kernel_rfl) (by kernel_rfl) (by kernel_rfl) (fun _ _ _ h => h) (Or.inl ⟨by rfl, ?_⟩) (by assumption) ?_
        rotate_left
        · intro w hSw; (try dsimp only at hSw); go_simp; with_reducible rfl
        try simp only [Act.put, List.getElem_toArray, List.getElem_cons_zero, List.getElem_cons_succ, List.setIfInBounds_toArray, List.set_cons_zero, List.set_cons_succ]
        refine wpAnyH_take (i := 14) (v := ?_) rfl (by kernel_rfl) (by kernel_rfl) (by kernel_rfl) (fun _ _ _ h => h) (Or.inl ⟨by rfl, ?_⟩) (by assumption) ?_
        rotate_left
        · intro w hSw; (try dsimp only at hSw); go_simp; with_reducible rfl
        try simp only [Act.put, List.getElem_toArray, List.getElem_cons_zero, List.getElem_cons_succ, List.setIfInBounds_toArray, List.set_cons_zero, List.set_cons_succ]
        refine wpAnyH_take (i := 15) (v := ?_) rfl (by kernel_rfl) (by kernel_rfl) (by kernel_rfl) (fun _ _ _ h => h) (Or.inl ⟨by rfl, ?_⟩) (by assumption) ?_
        rotate_left
        · intro w hSw; (try dsimp only at hSw); go_simp; with_reducible rfl
        try simp only [Act.put, List.getElem_toArray, List.getElem_cons_zero, List.getElem_cons_succ, List.setIfInBounds_toArray, List.set_cons_zero, List.set_cons_succ]
        refine wpAnyH_take (i := 16) (v := ?_) rfl (by kernel_rfl) (by kernel_rfl) (by kernel_rfl) (fun _ _ _ h => h) (Or.inl ⟨by rfl, ?_⟩) (by assumption) ?_
        rotate_left
        · intro w hSw; (try dsimp only at hSw); go_simp; with_reducible rfl
        try simp only [Act.put, List.getElem_toArray, List.getElem_cons_zero, List.getElem_cons_succ, List.setIfInBounds_toArray, List.set_cons_zero, List.set_cons_succ]
        refine wpAnyH_ready (rs := [17]) (by kernel_rfl) (by simp) ?_
        refine AllReadyH.cons rfl (fun K hK => ?_) AllReadyH.nil
        go_simp
        (go_at_call 15; refine (H15.out _ _ _ ?_ HN3.out ?_).mono ?_; exact HO.out.below HB6.out (Nat.le_refl _); exact HCZ.out.below HB6.out (Nat.le_refl _); rintro e w4 ⟨rfl, hB⟩; have HB6 : Hid (Below w6.heap.size w6 w4) := Lib.hid (HB6.out.trans (hB.mono HB6.out.size)); clear hB)
        go_wp2_with fail
        refine hK.out _ _ ?_ (fun hHeld3 => ?_)
        · (try dsimp only); exact HS.out _ HB6.out
        clear hHeld2 hK K
        try simp only [Act.put, List.getElem_toArray, List.getElem_cons_zero, List.getElem_cons_succ, List.setIfInBounds_toArray, List.set_cons_zero, List.set_cons_succ]
        refine wpAnyH_take (i := 18) (v := ?_) rfl (by kernel_rfl) (by kernel_rfl) (by kernel_rfl) (fun _ _ _ h => h) (Or.inl ⟨by rfl, ?_⟩) (by assumption) ?_
        rotate_left
        · intro w hSw; (try dsimp only at hSw); go_simp; with_reducible rfl
        try simp only [Act.put, List.getElem_toArray, List.getElem_cons_zero, List.getElem_cons_succ, List.setIfInBounds_toArray, List.set_cons_zero, List.set_cons_succ]
        refine wpAnyH_take (i := 19) (v := ?_) rfl (by kernel_rfl) (by kernel_rfl) (by kernel_rfl) (fun _ _ _ h => h) (Or.inl ⟨by rfl, ?_⟩) (by assumption) ?_
        rotate_left
        · intro w hSw; (try dsimp only at hSw); go_simp; with_reducible rfl
        try simp only [Act.put, List.getElem_toArray, List.getElem_cons_zero, List.getElem_cons_succ, List.setIfInBounds_toArray, List.set_cons_zero, List.set_cons_succ]
        refine wpAnyH_ready (rs := [20]) (by kernel_rfl) (by simp) ?_
        refine AllReadyH.cons rfl (fun K hK => ?_) AllReadyH.nil
        go_simp
        (go_at_call 8; refine (HK _ (HV.out.below (HB.out.trans ((HQ.out.trans (HB6.out.mono HQ.out.size)).mono HB.out.size)) (Nat.le_refl _))).mono ?_; rintro e w4 ⟨rfl, hB⟩; have HB6 : Hid (Below w6.heap.size w6 w4) := Lib.hid (HB6.out.trans (hB.mono HB6.out.size)); clear hB)
        go_wp2_with fail
        refine hK.out _ _ ?_ (fun hHeld4 => ?_)
        · (try dsimp only); exact HS.out _ HB6.out
        clear hHeld3 hK K
        try simp only [Act.put, List.getElem_toArray, List.getElem_cons_zero, List.getElem_cons_succ, List.setIfInBounds_toArray, List.set_cons_zero, List.set_cons_succ]
        refine wpAnyH_take (i := 21) (v := ?_) rfl (by kernel_rfl) (by kernel_rfl) (by kernel_rfl) (fun _ _ _ h => h) (Or.inl ⟨by rfl, ?_⟩) (by assumption) ?_
        rotate_left
        · intro w hSw; (try dsimp only at hSw); go_simp; with_reducible rfl
        try simp only [Act.put, List.getElem_toArray, List.getElem_cons_zero, List.getElem_cons_succ, List.setIfInBounds_toArray, List.set_cons_zero, List.set_cons_succ]
        refine wpAnyH_take (i := 22) (v := ?_) rfl (by kernel_rfl) (by kernel_rfl) (by kernel_rfl) (fun _ _ _ h => h) (Or.inl ⟨by rfl, ?_⟩) (by assumption) ?_
        rotate_left
        · intro w hSw; (try dsimp only at hSw); go_simp; with_reducible rfl
        try simp only [Act.put, List.getElem_toArray, List.getElem_cons_zero, List.getElem_cons_succ, List.setIfInBounds_toArray, List.set_cons_zero, List.set_cons_succ]
        refine wpAnyH_done (by kernel_rfl) ?_ _
        refine NoPanic.normal ?_
        all_goals
          go_wp2
          go_ret
          exact ⟨rfl, HB.out.trans ((HQ.out.trans (HB6.out.mono HQ.out.size)).mono HB.out.size)⟩
  · have hl2 : 300 < xs.length ∨ (xs.length ≤ 300 ∧ 300 < zs.length) := by omega
    clear hl
    rcases hl2 with hl | ⟨hl, hl2⟩
    all_goals
      go_enter Tryd.func4, Tryd.ntmps4
      go_wp2_with (go_at_call 8; refine (HK _ HV.out).mono ?_; rintro e w1 ⟨rfl, hB⟩)
      go_ret
      exact ⟨rfl, hB⟩
end Go.Proofs.YtbmkjjoehancbaaDoor.ACrc
