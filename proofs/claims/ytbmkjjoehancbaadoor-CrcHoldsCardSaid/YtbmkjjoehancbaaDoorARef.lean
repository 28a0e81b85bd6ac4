/- The contracts of the reference: Step, Update, Sum, Append, Open, Text, Parse. -/
import Derived.Test.YtbmkjjoehancbaaDoorAPas
namespace Go.Proofs.YtbmkjjoehancbaaDoor.ACrc
open Go.RowKit Go.Proofs.YtbmkjjoehancbaaDoor.Crc

theorem sb_odd (n : Nat) (hn : n < 4294967296) (h : n % 2 = 1) : bits .xor .u32 ((n : Int) / 2) 2197175160 = (sb n : Int) := by
  have h3 := u32_xor_nat (n / 2) 2197175160 (by omega) (by decide)
  rw [show ((n / 2 : Nat) : Int) = (n : Int) / 2 from by omega] at h3
  rw [show ((2197175160 : Nat) : Int) = 2197175160 from rfl] at h3
  rw [h3]
  unfold sb
  rw [if_pos h]
theorem sb_even (n : Nat) (h : ¬ n % 2 = 1) : (n : Int) / 2 = (sb n : Int) := by
  unfold sb
  rw [if_neg h]
  omega

set_option maxHeartbeats 1000000 in
set_option maxRecDepth 100000 in
theorem rstep_any (n x : Nat) (hn : n < 4294967296) (hx : x < 256) (w : World) :
    Calls Tryd.prog 22 #[.int .u32 (n : Int), .int .u8 (x : Int)] w fun e w' => e = .returned (.int .u32 (rstep n x : Int)) ∧ w = w' := by
  have h0 := u32_xor_nat n x hn (by omega)
  have hm : n ^^^ x < 4294967296 := Nat.xor_lt_two_pow (n := 32) hn (by show x < 4294967296; omega)
  have HR := Lib.hid (show rstep n x = sbs 8 (n ^^^ x) by unfold rstep; rfl)
  go_enter Tryd.func22, Tryd.ntmps22
  go_wp2
  go_loop [0, 5] (fun v i => ∃ j : Nat, j ≤ 8 ∧ i = .int .i64 j ∧ v = .int .u32 (sbs j (n ^^^ x) : Int)) (fun _ i => 8 - (intOf i).toNat)
  case atStart => exact ⟨0, by omega, rfl, rfl⟩
  case round =>
    obtain ⟨j, hj, rfl, rfl⟩ := hrel
    have hlt := sbs_lt j (n ^^^ x) hm
    have HS := Lib.hid (sbs_step j (n ^^^ x))
    by_cases h8 : j < 8
    · clear h0 hm
      generalize sbs j (n ^^^ x) = u at *
      by_cases hb : u % 2 = 1
      · have hb1 : ((u : Int) % 2 == 1) = true := beq_iff_eq.2 (by omega)
        have hx1 := sb_odd u hlt hb
        clear hb
        go_wp2
        go_round
        case rel => exact ⟨j + 1, by omega, by go_num, by rw [HS.out]⟩
        case measure => simp [intOf]; omega
      · have hb1 : ((u : Int) % 2 == 1) = false := beq_eq_false_iff_ne.2 (by omega)
        have hx1 := sb_even u hb
        clear hb
        go_wp2
        go_round
        case rel => exact ⟨j + 1, by omega, by go_num, by rw [HS.out]⟩
        case measure => simp [intOf]; omega
    · obtain rfl : j = 8 := by omega
      go_wp2
      go_ret
      exact ⟨by rw [HR.out]; rfl, rfl⟩

set_option maxHeartbeats 1000000 in
set_option maxRecDepth 100000 in
theorem rupdate_any (s : Nat) (hs : s < 4294967296) (A : Option Addr) (zs : List Int) (c : Nat) (w : World) (hr : RdB w A zs) :
    Calls Tryd.prog 12 #[.int .u32 (s : Int), .slice A zs.length c] w fun e w' => e = .returned (.int .u32 (update s zs : Int)) ∧ w = w' := by
  have hlen : zs.length ≤ 140737488351232 := hr.len
  have h0 := not_u32 s hs
  go_enter Tryd.func12, Tryd.ntmps12
  go_wp2
  go_loop [5, 6] (fun n i => ∃ k : Nat, k ≤ zs.length ∧ i = .int .i64 k ∧ n = .int .u32 (upd (4294967295 - s) (zs.take k) : Int)) (fun _ i => zs.length - (intOf i).toNat)
  case atStart => exact ⟨0, Nat.zero_le _, rfl, by rw [List.take_zero, upd_nil]⟩
  case round =>
    clear h0
    obtain ⟨k, hk, rfl, rfl⟩ := hrel
    have hn := upd_lt (zs.take k) (4294967295 - s) (by omega) (fun y hy => hr.bs y (List.mem_of_mem_take hy))
    by_cases hlt : k < zs.length
    · obtain ⟨b, off, rfl, hc⟩ := hr.cells (by omega)
      have hcx := hc k hlt
      have hxb := hr.bs (zs.getD k 0) (by rw [getD_at _ _ hlt]; exact List.getElem_mem hlt)
      have hsn : zs.take (k + 1) = zs.take k ++ [zs.getD k 0] := by rw [List.take_succ_eq_append_getElem hlt, getD_at _ _ hlt]
      have hup := upd_snoc (4294967295 - s) (zs.take k) (zs.getD k 0)
      rw [← hsn] at hup
      have HU := Lib.hid hup
      clear hup hsn hc
      generalize zs.getD k 0 = xi at *
      obtain ⟨x, rfl⟩ := Int.eq_ofNat_of_zero_le hxb.1
      have hx : x < 256 := by omega
      generalize upd (4294967295 - s) (zs.take k) = n at *
      clear hr hxb
      go_wp2_with (go_at_call 22; refine (rstep_any n x hn hx _).mono ?_; rintro e w' ⟨rfl, rfl⟩)
      go_round
      case rel => exact ⟨k + 1, by omega, by go_num, by rw [HU.out, Int.toNat_natCast]⟩
      case measure => simp [intOf]; omega
    · obtain rfl : k = zs.length := by omega
      rw [List.take_length] at *
      have HE := Lib.hid (show (4294967295 : Int) - (upd (4294967295 - s) zs : Int) = (update s zs : Int) by rw [update_eq, not_u32 _ hn])
      have hn2 := not_u32 _ hn
      go_wp2
      go_ret
      exact ⟨by first | rfl | (rw [HE.out]; rfl) | (rw [update_eq]; rfl), rfl⟩

set_option maxHeartbeats 1000000 in
set_option maxRecDepth 100000 in
theorem rsum_any (A : Option Addr) (zs : List Int) (c : Nat) (w : World) (hr : RdB w A zs) :
    Calls Tryd.prog 10 #[.slice A zs.length c] w fun e w' => e = .returned (.int .u32 (sum zs : Int)) ∧ w = w' := by
  have HS := Lib.hid (show sum zs = update 0 zs by unfold sum; rfl)
  go_enter Tryd.func10, Tryd.ntmps10
  go_wp2_with (go_at_call 12; refine (rupdate_any 0 (by decide) A zs c _ hr).mono ?_; rintro e w' ⟨rfl, rfl⟩)
  go_ret
  exact ⟨by rw [HS.out]; rfl, rfl⟩

theorem own_nil (w : World) (base : Nat) : Own w base (.slice none 0 0) [] := World.ownsRow_nil _ _ _ _
theorem sumCells (s : Nat) (hs : s < 4294967296) : #[Value.int .u8 ((s : Int) / 16777216), Value.int .u8 ((s : Int) / 65536 % 256), Value.int .u8 ((s : Int) / 256 % 256), Value.int .u8 ((s : Int) % 256)] = (nb (sumBytes s)).toArray := by
  simp only [nb, sumBytes, List.map_cons, List.map_nil]
  rw [show ((s / 16777216 % 256 : Nat) : Int) = (s : Int) / 16777216 from by omega, show ((s / 65536 % 256 : Nat) : Int) = (s : Int) / 65536 % 256 from by omega,
    show ((s / 256 % 256 : Nat) : Int) = (s : Int) / 256 % 256 from by omega, show ((s % 256 : Nat) : Int) = (s : Int) % 256 from by omega]
theorem RdB_sum (s : Nat) (hs : s < 4294967296) (w1 : World) :
    RdB (w1.alloc (.cells #[Value.int .u8 ((s : Int) / 16777216), Value.int .u8 ((s : Int) / 65536 % 256), Value.int .u8 ((s : Int) / 256 % 256), Value.int .u8 ((s : Int) % 256)] 5)) (some ⟨w1.heap.size, 0, none⟩) (sumBytes s) := by
  rw [sumCells s hs]
  exact RdB.lit w1 _ (sumBytes_bs s) (by rw [sumBytes_length]; decide)

set_option maxHeartbeats 4000000 in
set_option maxRecDepth 100000 in
theorem rappend_any (A : Option Addr) (xs : List Int) (c : Nat) (w : World) (hr : RdB w A xs) (hn : A = none → c = 0) :
    Calls Tryd.prog 14 #[.slice A xs.length c] w fun e w' => ∃ v, e = .returned v ∧ Own w' w.heap.size v (xs ++ sumBytes (sum xs)) ∧ Below w.heap.size w w' := by
  have HR := Lib.hid hr
  have HN := Lib.hid hn
  have hlen := hr.len
  have hslt : sum xs < 4294967296 := by unfold sum; exact update_lt _ _
  have HS := fun W (h : RdB W A xs) => rsum_any A xs c W h
  clear hr hn
  generalize sum xs = s at *
  go_enter Tryd.func14, Tryd.ntmps14
  go_wp2_with fail
  refine (HS _ HR.out).mono ?_
  rintro e w' ⟨rfl, rfl⟩
  clear HS
  go_wp2_with (first | (at_builtin; refine wpList_append_bytes rfl (.const (.slice none 0 0)) (.tmp 6) rfl w.heap.size (.slice none 0 0) [] rfl (own_nil w _) A xs c rfl HR.out HN.out (by simp; omega) (Nat.le_refl _) ?_; intro v1 w1 hown1 hg1; have HO1 : Hid (Own w1 w.heap.size v1 xs) := Lib.hid hown1; have hB1 := Own.below (own_nil w w.heap.size) (Below.refl _ _) (Nat.le_refl _) hg1; have HB1 := Lib.hid hB1; have hw1 := hB1.size; clear hown1 hg1 hB1) | (at_builtin; refine wpList_append_bytes rfl (.tmp 7) (.tmp 22) rfl w.heap.size v1 xs rfl (HO1.out.kept ((Below.refl _ _).alloc (Nat.le_refl _) _)) (some ⟨w1.heap.size, 0, none⟩) (sumBytes s) 4 rfl (RdB_sum s hslt w1) (fun h => by cases h) (by rw [sumBytes_length]; omega) (by simp; omega) ?_; intro v2 w2 hown2 hg2; have hB2 := Own.below (HO1.out.kept ((Below.refl _ _).alloc (Nat.le_refl _) _)) (HB1.out.alloc hw1 _) (by simp; omega) hg2; have HO2 := Lib.hid hown2; clear hown2 hg2))
  go_ret
  exact ⟨v2, rfl, HO2.out, hB2⟩

theorem RdB.string {w : World} {A : Option Addr} {xs : List Int} {c : Nat} (h : RdB w A xs) (hn : A = none → c = 0) : (convert 23 9 (.slice A xs.length c)).run Tryd.prog w = .ok (.string (strOfNums xs)) w := by
  cases A with
  | none =>
    have hx : xs = [] := by
      rcases Nat.eq_zero_or_pos xs.length with h0 | h0
      · exact List.eq_nil_of_length_eq_zero h0
      · obtain ⟨b, off, e, _⟩ := h.cells h0; cases e
    subst hx
    exact run_convert_bytes_nil (P := Tryd.prog) w 23 5 Tryd.underlying23 Tryd.underlying5 _ _ 9 Tryd.underlying9
  | some a =>
    rcases Nat.eq_zero_or_pos xs.length with h0 | h0
    · obtain ⟨b, off, sp⟩ := a
      have hx := List.eq_nil_of_length_eq_zero h0
      subst hx
      have hc := run_convert_bytes_arg (P := Tryd.prog) w 23 5 Tryd.underlying23 Tryd.underlying5 b off 0 c [] rfl (fun i hi => absurd hi (by omega)) 9 Tryd.underlying9
      have e : (convert 23 9 (.slice (some ⟨b, off, sp⟩) 0 c)).run Tryd.prog w = (convert 23 9 (.slice (some ⟨b, off, none⟩) 0 c)).run Tryd.prog w := by
        simp [convert, run_underlying Tryd.underlying23, run_underlying Tryd.underlying9, run_underlying Tryd.underlying5, Conv.bytesToString, loadCells, loadCellsFrom]
      rw [show ([] : List Int).length = 0 from rfl, e]
      exact hc
    · obtain ⟨b, off, e, hc⟩ := h.cells h0
      rw [e]
      exact run_convert_bytes_arg (P := Tryd.prog) w 23 5 Tryd.underlying23 Tryd.underlying5 b off xs.length c xs rfl hc 9 Tryd.underlying9

theorem strOfNums_inj {xs ys : List Int} (hx : Bs xs) (hy : Bs ys) (h : strOfNums xs = strOfNums ys) : xs = ys := by
  have h2 : (xs.map fun n => UInt8.ofNat n.toNat) = ys.map fun n => UInt8.ofNat n.toNat := by rw [← strOfNums_data, ← strOfNums_data, h]
  clear h
  induction xs generalizing ys with
  | nil => cases ys with
    | nil => rfl
    | cons y ys => simp at h2
  | cons x xs ih => cases ys with
    | nil => simp at h2
    | cons y ys =>
      simp only [List.map_cons, List.cons.injEq] at h2
      have hx1 := hx x (by simp)
      have hy1 := hy y (by simp)
      have e : x.toNat = y.toNat := by
        have := congrArg UInt8.toNat h2.1
        rwa [UInt8.toNat_ofNat_of_lt' (show x.toNat < 256 by omega), UInt8.toNat_ofNat_of_lt' (show y.toNat < 256 by omega)] at this
      rw [ih (fun z hz => hx z (by simp [hz])) (fun z hz => hy z (by simp [hz])) h2.2, show x = y from by omega]
/-- two strings of bytes are equal as the bytes are -/
theorem str_beq {xs ys : List Int} (hx : Bs xs) (hy : Bs ys) : ((strOfNums xs).toList == (strOfNums ys).toList) = decide (xs = ys) := by
  by_cases h : xs = ys
  · subst h
    simp
  · rw [decide_eq_false h]
    exact (Lib.bytes_beq_false_iff _ _).2 fun e => h (strOfNums_inj hx hy e)
theorem Bs_append {xs ys : List Int} (hx : Bs xs) (hy : Bs ys) : Bs (xs ++ ys) := fun x h => by
  rcases List.mem_append.1 h with h | h
  · exact hx x h
  · exact hy x h

set_option maxHeartbeats 4000000 in
set_option maxRecDepth 100000 in
theorem ropen_short (A : Option Addr) (xs : List Int) (c : Nat) (w : World) (hl : xs.length < 4) :
    Calls Tryd.prog 16 #[.slice A xs.length c] w fun e w' => e = .returned (.tuple #[.slice none 0 0, .int .i64 4]) ∧ w = w' := by
  go_enter Tryd.func16, Tryd.ntmps16
  go_wp2
  go_ret2
  exact ⟨rfl, rfl⟩

theorem openR_cases (xs : List Int) (m : Nat) (hm : xs.length = m + 4) : (xs.take m ++ sumBytes (sum (xs.take m)) = xs → openR xs = (xs.take m, 0)) ∧ (xs.take m ++ sumBytes (sum (xs.take m)) ≠ xs → openR xs = ([], 10)) := by
  have e1 : xs.length - 4 = m := by omega
  have hu : openR xs = if sumBytes (sum (xs.take m)) = xs.drop m then (xs.take m, 0) else ([], 10) := by unfold openR; rw [if_neg (by omega), e1]
  refine ⟨fun h => ?_, fun h => ?_⟩
  · have h2 : xs.take m ++ sumBytes (sum (xs.take m)) = xs.take m ++ xs.drop m := by rw [List.take_append_drop]; exact h
    rw [hu, if_pos (List.append_cancel_left h2)]
  · rw [hu, if_neg (fun e => h (by rw [e, List.take_append_drop]))]

set_option maxHeartbeats 4000000 in
set_option maxRecDepth 100000 in
theorem ropen_long (b off : Nat) (xs : List Int) (c : Nat) (w : World) (hr : RdB w (some ⟨b, off, none⟩) xs) (hl : 4 ≤ xs.length) (hc : xs.length ≤ c) :
    Calls Tryd.prog 16 #[.slice (some ⟨b, off, none⟩) xs.length c] w fun e w' => (∃ A2 c2, e = .returned (.tuple #[.slice A2 (openR xs).1.length c2, .int .i64 (openR xs).2]) ∧ RdB w A2 (openR xs).1 ∧ (A2 = none → c2 = 0)) ∧ Below w.heap.size w w' := by
  have hlen := hr.len
  obtain ⟨m, hm⟩ : ∃ m, xs.length = m + 4 := ⟨xs.length - 4, by omega⟩
  have e1 : xs.length - 4 = m := by omega
  have HO := Lib.hid (openR_cases xs m hm)
  have hbody := hr.take m
  have l1 : (xs.take m).length = m := by rw [List.length_take]; omega
  have hcb : ∀ W, Below w.heap.size w W → (convert 23 9 (.slice (some ⟨b, off, none⟩) (m + 4) c)).run Tryd.prog W = .ok (.string (strOfNums xs)) W := fun W hW => by
    have := (hr.below hW (Nat.le_refl _)).string (c := c) (fun h => by cases h)
    rwa [hm] at this
  have hbeq := str_beq (Bs_append hbody.bs (sumBytes_bs (sum (xs.take m)))) hr.bs
  have hlb : (xs.take m ++ sumBytes (sum (xs.take m))).length ≤ 140737488351232 := by rw [List.length_append, l1, sumBytes_length]; omega
  have HBS := Lib.hid (Bs_append hbody.bs (sumBytes_bs (sum (xs.take m))))
  generalize openR xs = R at *
  generalize xs.take m = body at *
  rw [hm] at hlen hc ⊢
  have HA : ∀ W, RdB W (some ⟨b, off, none⟩) body → Calls Tryd.prog 14 #[.slice (some ⟨b, off, none⟩) m c] W fun e w' => ∃ v, e = .returned v ∧ Own w' W.heap.size v (body ++ sumBytes (sum body)) ∧ Below W.heap.size W w' := fun W h => by
    have := rappend_any _ body c W h (fun h => by cases h)
    rwa [l1] at this
  generalize body ++ sumBytes (sum body) = full at *
  have HCB := Lib.hid hcb
  have HLB := Lib.hid hlb
  have HL1 := Lib.hid l1
  have HBody := Lib.hid hbody
  have hcw := HCB.out w.drew (Below.refl _ _).drew
  clear hr hl e1 hm hcb hlb l1 hbody
  by_cases hq : full = xs
  · have hb : ((strOfNums full).toList == (strOfNums xs).toList) = true := by rw [hbeq, decide_eq_true hq]
    have HR := Lib.hid (HO.out.1 hq)
    clear hq HO hbeq
    go_enter Tryd.func16, Tryd.ntmps16
    go_wp2
    go_region_with (first | (go_at_call 14; refine (HA _ ?_).mono ?_; exact HBody.out.below (Below.refl _ _).drew (Nat.le_refl _); rintro e w1 ⟨v, rfl, hown, hB⟩; obtain ⟨A1, c1, rfl, hr1, hn1⟩ := hown.reads HBS.out HLB.out; have hcv := hr1.string (c := c1) hn1; have hcw1 := HCB.out w1 ((Below.refl _ _).drew.trans hB); have HB := Lib.hid hB; clear hown hr1 hn1 hB))
    all_goals
      have hB2 : Below w.heap.size w w1 := (Below.refl _ _).drew.trans HB.out
      clear hcv hcw1 hcw
      go_wp2
      go_ret2
      exact ⟨⟨some ⟨b, off, none⟩, c, by rw [HR.out, ← HL1.out]; rfl, by rw [HR.out]; exact HBody.out, fun h => by cases h⟩, hB2⟩
  · have hb : ((strOfNums full).toList == (strOfNums xs).toList) = false := by rw [hbeq, decide_eq_false hq]
    have HR := Lib.hid (HO.out.2 hq)
    clear hq HO hbeq
    go_enter Tryd.func16, Tryd.ntmps16
    go_wp2
    go_region_with (first | (go_at_call 14; refine (HA _ ?_).mono ?_; exact HBody.out.below (Below.refl _ _).drew (Nat.le_refl _); rintro e w1 ⟨v, rfl, hown, hB⟩; obtain ⟨A1, c1, rfl, hr1, hn1⟩ := hown.reads HBS.out HLB.out; have hcv := hr1.string (c := c1) hn1; have hcw1 := HCB.out w1 ((Below.refl _ _).drew.trans hB); have HB := Lib.hid hB; clear hown hr1 hn1 hB))
    all_goals
      have hB2 : Below w.heap.size w w1 := (Below.refl _ _).drew.trans HB.out
      clear hcv hcw1 hcw
      go_wp2
      go_ret2
      exact ⟨⟨none, 0, by rw [HR.out]; rfl, by rw [HR.out]; exact ⟨by simp, fun x hx => by simp at hx, fun h => by simp at h⟩, fun _ => rfl⟩, hB2⟩
end Go.Proofs.YtbmkjjoehancbaaDoor.ACrc
