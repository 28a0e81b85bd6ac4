/- The contracts of crc.Append, slices.Clone, slices.Equal, crc.Open. -/
import Derived.Test.YtbmkjjoehancbaaDoorASl
import Derived.Deep.QuietTactic
import Derived.BigQuiet
import Derived.WalkSpells
import Derived.Deep.RegionWith
namespace Go.Proofs.YtbmkjjoehancbaaDoor.ACrc
open Go.RowKit Go.Proofs.YtbmkjjoehancbaaDoor.Crc

theorem RdB.lit (w : World) (xs : List Int) (hb : Bs xs) (hl : xs.length ≤ 140737488351232) : RdB (w.alloc (.cells (nb xs).toArray 5)) (some ⟨w.heap.size, 0, none⟩) xs :=
  ⟨hl, hb, fun _ => ⟨_, 0, rfl, fun j hj => by
    rw [Nat.zero_add, World.cell?_alloc_at _ _ _ _ rfl]
    simp [nb, hj, List.getD_eq_getElem?_getD]⟩⟩

theorem Own.mono {w : World} {base base' : Nat} {v : Value} {xs : List Int} (h : Own w base v xs) (hb : base' ≤ base) : Own w base' v xs := by
  refine ⟨h.1, ?_⟩
  rcases h.2 with h0 | ⟨g, cap, cur, e, hbg, r⟩
  · exact .inl h0
  · exact .inr ⟨g, cap, cur, e, Nat.le_trans hb hbg, r⟩

attribute [local irreducible] sum sumBytes

set_option maxHeartbeats 4000000 in
set_option maxRecDepth 100000 in
theorem append_any (A : Option Addr) (xs : List Int) (c : Nat) (w : World) (hr : RdB w A xs) (hn : A = none → c = 0) :
    Calls Tryd.prog 13 #[.slice A xs.length c] w fun e w' => ∃ v, e = .returned v ∧ Own w' w.heap.size v (xs ++ sumBytes (sum xs)) ∧ Below w.heap.size w w' := by
  have HR := Lib.hid hr
  have HN := Lib.hid hn
  have hlen := hr.len
  have hslt : sum xs < 4294967296 := by unfold sum; exact update_lt _ _
  have HL := Lib.hid (sumBytes_length (sum xs))
  have HS := fun W (h : RdB W A xs) => sum_any A xs c W h
  clear hr hn
  generalize sum xs = s at *
  go_enter Tryd.func13, Tryd.ntmps13
  go_wp2_with fail
  refine (HS _ HR.out).mono ?_
  rintro e w1 ⟨rfl, hB⟩
  have hs1 := hB.size
  have HB := Lib.hid hB
  clear hB HS
  go_wp2_with fail
  refine (bytes_any s hslt _).mono ?_
  rintro e w' ⟨rfl, rfl⟩
  generalize hcs : (nb (sumBytes s)).toArray = cs at *
  have HC := Lib.hid hcs
  clear hcs
  go_wp2_with fail
  have hB1 : Below w.heap.size w ((w1.alloc (.cells cs 5)).alloc (.cells #[.slice A xs.length c, .slice (some ⟨w1.heap.size, 0, none⟩) 4 4] 23)) := (HB.out.alloc hs1 _).alloc (by simp; omega) _
  refine (concat2 _ (w1.heap.size + 1) A (some ⟨w1.heap.size, 0, none⟩) xs (sumBytes s) c 4 ?h0 ?h1 ?r1 ?n1 ?r2 ?n2 ?hl).mono ?_
  case h0 => rw [World.cell?_alloc_at _ _ _ _ (by simp)]; rfl
  case h1 => rw [World.cell?_alloc_at _ _ _ _ (by simp), HL.out]; rfl
  case r1 => exact HR.out.below hB1 (Nat.le_refl _)
  case n1 => exact HN.out
  case r2 =>
    have h := RdB.lit w1 (sumBytes s) (sumBytes_bs s) (by rw [HL.out]; omega)
    rw [HC.out] at h
    exact h.below ((Below.refl _ _).alloc (Nat.le_refl _) _) (Nat.le_refl _)
  case n2 => intro h; cases h
  case hl => rw [HL.out]; omega
  rintro e w2 ⟨v, rfl, hown, hB2⟩
  have HO := Lib.hid hown
  have HB2 := Lib.hid (show Below w.heap.size w w2 from hB1.trans (hB2.mono (by simp; omega)))
  clear hown hB2 hB1
  go_wp2
  go_ret
  exact ⟨v, rfl, Own.mono HO.out (by simp only [World.size_alloc]; omega), HB2.out⟩

set_option maxHeartbeats 4000000 in
set_option maxRecDepth 100000 in
theorem clone_any (A : Option Addr) (xs : List Int) (c : Nat) (w : World) (hr : RdB w A xs) (hn : A = none → c = 0) :
    Calls Tryd.prog 31 #[.slice A xs.length c] w fun e w' => ∃ v, e = .returned v ∧ Own w' w.heap.size v xs ∧ Below w.heap.size w w' := by
  cases A with
  | none =>
    obtain rfl := hn rfl
    have hx : xs = [] := by
      rcases Nat.eq_zero_or_pos xs.length with h | h
      · exact List.eq_nil_of_length_eq_zero h
      · obtain ⟨b, off, e, _⟩ := hr.cells h; cases e
    subst hx
    clear hr hn
    have hq := fun w => Lib.run_eql_slice_nil (P := Tryd.prog) w 23 5 none 0 0 0 0 Tryd.underlying23
    go_enter Tryd.func31, Tryd.ntmps31
    go_wp2
    go_ret
    exact ⟨_, rfl, World.ownsRow_nil _ _ _ _, Below.refl _ _⟩
  | some a =>
    have HR := Lib.hid hr
    have hlen := hr.len
    clear hr hn
    have hq := fun w => Lib.run_eql_slice_nil (P := Tryd.prog) w 23 5 (some a) xs.length c 0 0 Tryd.underlying23
    go_enter Tryd.func31, Tryd.ntmps31
    go_wp2_with (at_builtin; refine wpList_append_bytes rfl _ _ rfl w.heap.size _ [] rfl (Own.lit w w.heap.size (Nat.le_refl _) [] (by simp)) (some a) xs c rfl (HR.out.below ((Below.refl _ _).alloc (Nat.le_refl _) _) (Nat.le_refl _)) (fun h => by cases h) (by simp; omega) (by simp) ?_; intro v' w' hown' hg)
    have hB := Own.below (Own.lit w w.heap.size (Nat.le_refl _) [] (by simp)) ((Below.refl _ _).alloc (Nat.le_refl _) _) (by simp) hg
    go_ret
    exact ⟨v', rfl, hown', hB⟩

theorem take_eq_succ {xs ys : List Int} {k : Nat} (hx : k < xs.length) (hy : k < ys.length) (h : xs.take k = ys.take k) (he : xs.getD k 0 = ys.getD k 0) : xs.take (k + 1) = ys.take (k + 1) := by
  rw [getD_at _ _ hx, getD_at _ _ hy] at he
  rw [List.take_succ_eq_append_getElem hx, List.take_succ_eq_append_getElem hy, h, he]

set_option maxHeartbeats 4000000 in
set_option maxRecDepth 100000 in
theorem equal_any (A B : Option Addr) (xs ys : List Int) (c d : Nat) (w : World) (hr : RdB w A xs) (hs : RdB w B ys) :
    Calls Tryd.prog 30 #[.slice A xs.length c, .slice B ys.length d] w fun e w' => e = .returned (.bool (decide (xs = ys))) ∧ ∃ n, w' = w.drewN n := by
  have hlen := hr.len
  have hlen2 := hs.len
  by_cases hl : xs.length = ys.length
  · have HR := Lib.hid hr
    have HS := Lib.hid hs
    have HL := Lib.hid hl
    have hlb : ((xs.length : Int) != (ys.length : Int)) = false := by simp [hl]
    clear hr hs hl
    go_enter Tryd.func30, Tryd.ntmps30
    go_wp2
    go_loopw [13] (fun i wr => ∃ k : Nat, k ≤ xs.length ∧ i = .int .i64 k ∧ Hid (xs.take k = ys.take k) ∧ ∃ m, wr = w.drewN m) (fun i _ => xs.length - (intOf i).toNat)
    case atStart => exact ⟨0, Nat.zero_le _, rfl, Lib.hid rfl, 0, rfl⟩
    case round =>
      obtain ⟨k, hk, rfl, HT, m, rfl⟩ := hrel
      by_cases hlt : k < xs.length
      · have hlt2 : k < ys.length := by have := HL.out; omega
        obtain ⟨b, off, rfl, hc⟩ := HR.out.cells (by omega)
        obtain ⟨b2, off2, rfl, hc2⟩ := HS.out.cells (by omega)
        have hx := hc k hlt
        have hy := hc2 k hlt2
        have HX := Lib.hid (take_eq_succ hlt hlt2 HT.out)
        have HN := Lib.hid (show xs.getD k 0 ≠ ys.getD k 0 → xs ≠ ys from fun h e => h (by rw [e]))
        clear hc hc2
        generalize xs.getD k 0 = x at *
        generalize ys.getD k 0 = y at *
        have hk0 : (0 : Int) ≤ (k : Int) := by omega
        have hk1 : (k : Int) < (xs.length : Int) := by omega
        have hk2 : (k : Int) < (ys.length : Int) := by omega
        by_cases he : x = y
        · have heb : (x != y) = false := by simp [he]
          have HE := Lib.hid he
          clear he
          go_wp2
          go_quiet (fail)
          go_wp2
          go_roundw
          case rel => exact ⟨k + 1, by omega, by go_num, Lib.hid (HX.out HE.out), _, rfl⟩
          case measure => simp [intOf]; omega
        · have heb : (x != y) = true := by simp [he]
          have HE := Lib.hid (HN.out he)
          clear he
          go_wp2
          go_quiet (fail)
          go_wp2
          go_ret
          exact ⟨by rw [decide_eq_false HE.out]; rfl, _, by first | rfl | exact World.drewN_drewN ..⟩
      · have HE := Lib.hid (show xs = ys from by
          have h := HT.out
          have h2 := HL.out
          rwa [List.take_of_length_le (by omega), List.take_of_length_le (by omega)] at h)
        go_wp2
        go_ret
        exact ⟨by rw [decide_eq_true HE.out]; rfl, m, rfl⟩
  · have hlb : ((xs.length : Int) != (ys.length : Int)) = true := by simp; omega
    have HE := Lib.hid (show xs ≠ ys from fun e => hl (by rw [e]))
    clear hr hs hl
    go_enter Tryd.func30, Tryd.ntmps30
    go_wp2
    go_ret
    exact ⟨by rw [decide_eq_false HE.out]; rfl, 0, rfl⟩

theorem RdB.take {w : World} {A : Option Addr} {xs : List Int} (h : RdB w A xs) (k : Nat) : RdB w A (xs.take k) :=
  ⟨by have := h.len; rw [List.length_take]; omega, fun x hx => h.bs x (List.mem_of_mem_take hx), fun hn => by
    rw [List.length_take] at hn
    obtain ⟨b, off, e, hc⟩ := h.cells (by omega)
    refine ⟨b, off, e, fun j hj => ?_⟩
    rw [List.length_take] at hj
    rw [hc j (by omega)]
    simp only [List.getD_eq_getElem?_getD, List.getElem?_take, if_pos (show j < k by omega)]⟩
theorem RdB.drop {w : World} {b off : Nat} {xs : List Int} (h : RdB w (some ⟨b, off, none⟩) xs) (k : Nat) : RdB w (some ⟨b, off + k, none⟩) (xs.drop k) :=
  ⟨by have := h.len; rw [List.length_drop]; omega, fun x hx => h.bs x (List.mem_of_mem_drop hx), fun hn => by
    rw [List.length_drop] at hn
    obtain ⟨b', off', e, hc⟩ := h.cells (by omega)
    cases e
    refine ⟨b, off + k, rfl, fun j hj => ?_⟩
    rw [List.length_drop] at hj
    rw [Nat.add_assoc, hc (k + j) (by omega)]
    simp only [List.getD_eq_getElem?_getD, List.getElem?_drop]⟩
theorem RdB.drewN {w : World} {A : Option Addr} {xs : List Int} (h : RdB w A xs) (n : Nat) : RdB (w.drewN n) A xs := ⟨h.len, h.bs, h.cells⟩

/-- what Open answers -/
def openR (xs : List Int) : List Int × Int :=
  if xs.length < 4 then ([], 4)
  else if sumBytes (sum (xs.take (xs.length - 4))) = xs.drop (xs.length - 4) then (xs.take (xs.length - 4), 0) else ([], 10)

set_option maxHeartbeats 4000000 in
set_option maxRecDepth 100000 in
theorem open_short (A : Option Addr) (xs : List Int) (c : Nat) (w : World) (hl : xs.length < 4) :
    Calls Tryd.prog 25 #[.slice A xs.length c] w fun e w' => e = .returned (.tuple #[.slice none 0 0, .int .i64 4]) ∧ w = w' := by
  go_enter Tryd.func25, Tryd.ntmps25
  go_wp2
  go_ret2
  exact ⟨rfl, rfl⟩

theorem opn_r1 {s : Nat} (h : Bs (sumBytes s)) (hl : (sumBytes s).length = 4) (w1 : World) : RdB (w1.alloc (.cells (nb (sumBytes s)).toArray 5)) (some ⟨w1.heap.size, 0, none⟩) (sumBytes s) :=
  RdB.lit w1 (sumBytes s) h (by omega)
theorem opn_b {w w1 : World} (hB : Below w.drew.heap.size w.drew w1) (o : Obj) (n : Nat) : Below w.heap.size w ((w1.alloc o).drewN n) := by
  have h := ((Below.refl w.heap.size w).drew.trans hB).alloc hB.size o
  exact ⟨h.os, h.tape, h.output, h.size, h.block⟩
theorem opn_r2 {w w1 : World} {A : Option Addr} {xs : List Int} (h : RdB w A xs) (hB : Below w.drew.heap.size w.drew w1) (o : Obj) : RdB (w1.alloc o) A xs :=
  h.below (((Below.refl _ _).drew.trans hB).alloc hB.size o) (Nat.le_refl _)

set_option maxHeartbeats 4000000 in
set_option maxRecDepth 100000 in
theorem open_long (b off : Nat) (xs : List Int) (c : Nat) (w : World) (hr : RdB w (some ⟨b, off, none⟩) xs) (hl : 4 ≤ xs.length) (hc : xs.length ≤ c) :
    Calls Tryd.prog 25 #[.slice (some ⟨b, off, none⟩) xs.length c] w fun e w' => ∃ v, e = .returned (.tuple #[v, .int .i64 (openR xs).2]) ∧ Own w' w.heap.size v (openR xs).1 ∧ Below w.heap.size w w' := by
  have hlen := hr.len
  obtain ⟨m, hm⟩ : ∃ m, xs.length = m + 4 := ⟨xs.length - 4, by omega⟩
  have e1 : xs.length - 4 = m := by omega
  have HO := Lib.hid (show openR xs = if sumBytes (sum (xs.take m)) = xs.drop m then (xs.take m, 0) else ([], 10) by unfold openR; rw [if_neg (by omega), e1])
  have hbody := hr.take m
  have htail := hr.drop m
  have l1 : (xs.take m).length = m := by rw [List.length_take]; omega
  have l2 : (xs.drop m).length = 4 := by rw [List.length_drop]; omega
  generalize openR xs = R at *
  generalize xs.take m = body at *
  generalize xs.drop m = tail at *
  rw [hm] at hlen hc ⊢
  clear hr hl e1 hm
  have HS : ∀ W, RdB W (some ⟨b, off, none⟩) body → Calls Tryd.prog 9 #[.slice (some ⟨b, off, none⟩) m c] W fun e w' => e = .returned (.int .u32 (sum body : Int)) ∧ Below W.heap.size W w' := fun W h => by
    have := sum_any _ body c W h
    rwa [l1] at this
  have hslt : sum body < 4294967296 := by unfold sum; exact update_lt _ _
  have HE : ∀ W g, RdB W (some ⟨g, 0, none⟩) (sumBytes (sum body)) → RdB W (some ⟨b, off + m, none⟩) tail → Calls Tryd.prog 30 #[.slice (some ⟨g, 0, none⟩) 4 4, .slice (some ⟨b, off + m, none⟩) 4 (c - m)] W fun e w' =>
      e = .returned (.bool (decide (sumBytes (sum body) = tail))) ∧ ∃ n, w' = W.drewN n := fun W g h h2 => by
    have := equal_any _ _ _ _ 4 (c - m) W h h2
    rwa [l2, sumBytes_length] at this
  have HC : ∀ W, RdB W (some ⟨b, off, none⟩) body → Calls Tryd.prog 31 #[.slice (some ⟨b, off, none⟩) m c] W fun e w' => ∃ v, e = .returned v ∧ Own w' W.heap.size v body ∧ Below W.heap.size W w' := fun W h => by
    have := clone_any _ body c W h (fun h => by cases h)
    rwa [l1] at this
  have HSB := Lib.hid (sumBytes_bs (sum body))
  have HSL := Lib.hid (sumBytes_length (sum body))
  have HL1 := Lib.hid l1
  have HL2 := Lib.hid l2
  have HBody := Lib.hid hbody
  have HTail := Lib.hid htail
  clear l1 l2 hbody htail
  generalize sum body = s at *
  go_enter Tryd.func25, Tryd.ntmps25
  go_wp2
  by_cases hq : sumBytes s = tail
  · have hqb := decide_eq_true hq
    have HR := Lib.hid (show R = (body, 0) by rw [HO.out, if_pos hq])
    clear hq HO
    go_region_with (first | (go_at_call 9; refine (HS _ ?_).mono ?_; exact HBody.out.below (Below.refl _ _).drew (Nat.le_refl _); rintro e w1 ⟨rfl, hB⟩; have HB := Lib.hid hB; clear hB) | (go_at_call 24; refine (bytes_any s hslt _).mono ?_; rintro e w' ⟨rfl, rfl⟩) | (go_at_call 30; refine (HE _ _ ?_ ?_).mono ?_; exact opn_r1 HSB.out HSL.out _; exact opn_r2 HTail.out HB.out _; rintro e w2 ⟨rfl, nq, rfl⟩))
    all_goals
      have hB2 : Below w.heap.size w ((w1.alloc (.cells (nb (sumBytes s)).toArray 5)).drewN nq) := opn_b HB.out _ _
      have HB2 := Lib.hid hB2
      have hw2 := hB2.size
      clear hB2
      go_wp2_with (go_at_call 31; refine (HC _ ?_).mono ?_; exact HBody.out.below HB2.out (Nat.le_refl _); rintro e w3 ⟨v, rfl, hown, hB3⟩)
      have R1 := Own.mono hown hw2
      have R2 := HB2.out.trans (hB3.mono hw2)
      go_ret2
      exact ⟨v, by rw [HR.out]; rfl, by rw [HR.out]; exact R1, R2⟩
  · have hqb := decide_eq_false hq
    have HR := Lib.hid (show R = ([], 10) by rw [HO.out, if_neg hq])
    clear hq HO
    go_region_with (first | (go_at_call 9; refine (HS _ ?_).mono ?_; exact HBody.out.below (Below.refl _ _).drew (Nat.le_refl _); rintro e w1 ⟨rfl, hB⟩; have HB := Lib.hid hB; clear hB) | (go_at_call 24; refine (bytes_any s hslt _).mono ?_; rintro e w' ⟨rfl, rfl⟩) | (go_at_call 30; refine (HE _ _ ?_ ?_).mono ?_; exact opn_r1 HSB.out HSL.out _; exact opn_r2 HTail.out HB.out _; rintro e w2 ⟨rfl, nq, rfl⟩))
    all_goals
      have hB2 : Below w.heap.size w ((w1.alloc (.cells (nb (sumBytes s)).toArray 5)).drewN nq) := opn_b HB.out _ _
      have HB2 := Lib.hid hB2
      clear hB2
      go_wp2
      go_ret2
      exact ⟨_, by rw [HR.out]; rfl, by rw [HR.out]; exact World.ownsRow_nil _ _ _ _, HB2.out⟩
end Go.Proofs.YtbmkjjoehancbaaDoor.ACrc
