/- The contracts of the law file's own helpers: opens, parses. -/
import Derived.Test.YtbmkjjoehancbaaDoorARp
namespace Go.Proofs.YtbmkjjoehancbaaDoor.ACrc
open Go.RowKit Go.Proofs.YtbmkjjoehancbaaDoor.Crc

set_option maxHeartbeats 4000000 in
set_option maxRecDepth 100000 in
theorem parses_any (t : ByteArray) (hmax : t.size ≤ 281474976710656) (n e : Int) (w : World) (hv : Vars w) :
    Calls Tryd.prog 20 #[.string t, .int .u32 n, .int .i64 e] w fun r w' => r = .returned (.bool (((parseR t).1 == n) && ((parseR t).2 == e))) ∧ Below w.heap.size w w' := by
  have HV := Lib.hid hv
  have HI := fun W (h : Vars W) => parse_any t hmax W h
  clear hv
  generalize parseR t = R at *
  obtain ⟨a, c⟩ := R
  have HB := Lib.hid ((by cases h : a == n <;> cases h2 : c == e <;> simp : ((a == n) = true ∧ (c == e) = true) ∨ ((a == n) = true ∧ (c == e) = false) ∨ (a == n) = false))
  rcases HB.out with ⟨h1, h2⟩ | ⟨h1, h2⟩ | h1
  all_goals
    clear HB
    go_enter Tryd.func20, Tryd.ntmps20
    go_wp2_with fail
    refine (HI _ HV.out).mono ?_
    rintro e1 w1 ⟨rfl, hB⟩
    have HB := Lib.hid hB
    clear hB HI
    go_wp2
    go_ret
    exact ⟨by simp [*], HB.out⟩

/-- what Open answers at any bytes -/
theorem open_any (A : Option Addr) (xs : List Int) (c : Nat) (w : World) (hr : RdB w A xs) (hc : xs.length ≤ c) :
    Calls Tryd.prog 25 #[.slice A xs.length c] w fun e w' => ∃ v, e = .returned (.tuple #[v, .int .i64 (openR xs).2]) ∧ Own w' w.heap.size v (openR xs).1 ∧ Below w.heap.size w w' := by
  by_cases hl : xs.length < 4
  · refine (open_short A xs c w hl).mono ?_
    rintro e w' ⟨rfl, rfl⟩
    have e : openR xs = ([], 4) := by unfold openR; rw [if_pos hl]
    rw [e]
    exact ⟨_, rfl, own_nil _ _, Below.refl _ _⟩
  · obtain ⟨b, off, rfl, _⟩ := hr.cells (by omega)
    exact open_long b off xs c w hr (by omega) hc

theorem openR_bs (xs : List Int) (h : Bs xs) : Bs (openR xs).1 ∧ (openR xs).1.length ≤ xs.length := by
  unfold openR
  split
  · exact ⟨fun x hx => by simp at hx, by simp⟩
  · split
    · exact ⟨fun x hx => h x (List.mem_of_mem_take hx), by simp⟩
    · exact ⟨fun x hx => by simp at hx, by simp⟩

theorem Own.readsC {w : World} {base : Nat} {v : Value} {xs : List Int} (h : Own w base v xs) (hb : Bs xs) (hl : xs.length ≤ 140737488351232) :
    ∃ A c, v = .slice A xs.length c ∧ RdB w A xs ∧ (A = none → c = 0) ∧ xs.length ≤ c := by
  obtain ⟨A, c, rfl, hr, hn⟩ := h.reads hb hl
  refine ⟨A, c, rfl, hr, hn, ?_⟩
  rcases h.2 with ⟨e, h0⟩ | ⟨g, cap, cur, e, hbg, hg, hnc, hm, hcs, ht⟩
  · omega
  · cases e
    exact hnc

set_option maxHeartbeats 4000000 in
set_option maxRecDepth 100000 in
theorem opens_any (A W0 : Option Addr) (xs ws : List Int) (c d : Nat) (n : Int) (w : World) (hr : RdB w A xs) (hw : RdB w W0 ws) (hn : W0 = none → d = 0) (hc : xs.length ≤ c) :
    Calls Tryd.prog 15 #[.slice A xs.length c, .slice W0 ws.length d, .int .i64 n] w fun r w' => r = .returned (.bool (decide ((openR xs).1 = ws) && ((openR xs).2 == n))) ∧ Below w.heap.size w w' := by
  have hlw := hw.len
  have hbq := openR_bs xs hr.bs
  have hlx := hr.len
  have HI := open_any A xs c w hr hc
  have HW := Lib.hid hw
  have HN := Lib.hid hn
  have hbeq := str_beq hbq.1 hw.bs
  have HBs := Lib.hid hbq.1
  have HLx := Lib.hid (show (openR xs).1.length ≤ 140737488351232 by omega)
  clear hr hw hn hbq
  generalize openR xs = R at *
  obtain ⟨body, code⟩ := R
  have HQ : Hid (((strOfNums body).toList == (strOfNums ws).toList) = decide (body = ws)) := Lib.hid hbeq
  clear hbeq
  have HC := Lib.hid (show ((decide (body = ws)) = true ∧ (code == n) = true) ∨ ((decide (body = ws)) = true ∧ (code == n) = false) ∨ (decide (body = ws)) = false by cases h : decide (body = ws) <;> cases h2 : code == n <;> simp)
  rcases HC.out with ⟨h1, h2⟩ | ⟨h1, h2⟩ | h1
  all_goals
    clear HC
    have hq := HQ.out.trans h1
    go_enter Tryd.func15, Tryd.ntmps15
    go_wp2_with fail
    refine HI.mono ?_
    rintro e1 w1 ⟨v, rfl, hown, hB⟩
    obtain ⟨A1, c1, rfl, hr1, hn1⟩ := hown.reads HBs.out HLx.out
    have hcv := hr1.string (c := c1) hn1
    have hcw := (HW.out.below hB (Nat.le_refl _)).string (c := d) HN.out
    have HB := Lib.hid hB
    clear hB HI hown hr1 hn1
    go_wp2
    go_ret
    exact ⟨by simp [*], HB.out⟩
end Go.Proofs.YtbmkjjoehancbaaDoor.ACrc
