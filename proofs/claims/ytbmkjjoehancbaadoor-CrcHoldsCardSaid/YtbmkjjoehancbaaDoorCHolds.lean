/- What is proved, as the given card of Holds (Rows.CrcHoldsCardSaid) states it: Update continues a check sum, a changed byte changes it, Open inverts Append, and Parse inverts Text: CrcHolds returns true for every two slices of bytes and every two numbers, and both slices read afterwards as before. Its condition: the package-level variables that the row lists hold what their initialisers lay; the card ties that to the program's text. -/
import Derived.Test.YtbmkjjoehancbaaDoorBRow
import Derived.Test.YtbmkjjoehancbaaDoorAL5
import Derived.Test.YtbmkjjoehancbaaDoorAKn
namespace Go.Proofs.YtbmkjjoehancbaaDoor.crcHolds
open Go.ChangeShapes Go.WideShapes Go.ChangeAt Go.RowKit Go.Proofs.YtbmkjjoehancbaaDoor.ACrc Go.Proofs.YtbmkjjoehancbaaDoor.Crc Go.Proofs.YtbmkjjoehancbaaDoor.BRow
open Go.ChangeMaps (open_string shut_string)

theorem known : KnownOk := fun W h => known_any W h
set_option maxRecDepth 100000 in
/-- what the walk gives, for every argument and every world that holds the variables -/
theorem contract (H : Type) (enc : TypeId × Value → H) (W : World) (base : Nat) (args : Array Value) (ds gs : List (DataW H)) (before : List MemPlace)
    (hval : ∀ (j : Nat) t v, Tryd.f7.params[j]? = some t → args[j]? = some v → Value.okWide Tryd.prog W .any base t v)
    (hW : DataW.Whole enc Tryd.prog Tryd.f7.params.toList Rows.crcHoldsSpec.vars false W args.toList ds gs before)
    (hsz : (DataW.weightsEach Tryd.prog (Tryd.f7.params.toList ++ []) (ds ++ gs)).all (· ≤ reachBytes) = true) (hL : laidMetH Tryd.prog laidL W) :
    Calls Tryd.prog 7 args W fun e W' => ∃ v, e = .returned v ∧ Rows.crcHoldsSpec.post enc Tryd.prog Tryd.f7 false true false false W args v W' := by
  have hW' := hW
  obtain ⟨p, q, hA0, hV, rfl, hfz, hnd⟩ := hW
  have hA : DataW.TrodAll enc Tryd.prog W 0 (fun _ => true) true Tryd.f7.params.toList args.toList ds p := hA0
  have hAk := hA
  rw [Tryd.params7] at hA hval hsz
  obtain ⟨v0, vs0, d0, ds0, p0, q0, hargs, rfl, rfl, h0, r0⟩ := trodAll_cons hA
  obtain ⟨v1, vs1, d1, ds1, p1, q1, rfl, rfl, rfl, h1, r1⟩ := trodAll_cons r0
  obtain ⟨v2, vs2, d2, ds2, p2, q2, rfl, rfl, rfl, h2, r2⟩ := trodAll_cons r1
  obtain ⟨v3, vs3, d3, ds3, p3, q3, rfl, rfl, rfl, h3, r3⟩ := trodAll_cons r2
  obtain ⟨rfl, rfl, rfl⟩ := trodAll_nil r3
  obtain rfl : args = #[v0, v1, v2, v3] := by cases args; simp_all
  obtain ⟨rfl, rfl⟩ := trodVars_none hV
  obtain ⟨A0, xs0, c0, rfl, hr0, hn0, hc0⟩ := open_bytes (hval 0 23 v0 rfl rfl) h0 (fun e s hd => sized_slice hsz (j := 0) rfl (by subst hd; rfl) Tryd.underlying23)
  obtain ⟨A1, xs1, c1, rfl, hr1, hn1, hc1⟩ := open_bytes (hval 1 23 v1 rfl rfl) h1 (fun e s hd => sized_slice hsz (j := 1) rfl (by subst hd; rfl) Tryd.underlying23)
  obtain ⟨n2, rfl, rfl, rfl, wn2⟩ := open_int Tryd.underlying34 (hval 2 34 v2 rfl rfl) h2
  have hb2 := bounds_u16 wn2
  obtain ⟨m2, rfl⟩ : ∃ m : Nat, n2 = (m : Int) := ⟨n2.toNat, by omega⟩
  obtain ⟨n3, rfl, rfl, rfl, wn3⟩ := open_int Tryd.underlying5 (hval 3 5 v3 rfl rfl) h3
  have hb3 := bounds_u8 wn3
  obtain ⟨m3, rfl⟩ : ∃ m : Nat, n3 = (m : Int) := ⟨n3.toNat, by omega⟩
  refine (holds_any known A0 A1 xs0 xs1 c0 c1 m2 m3 (by omega) (by omega) W hr0 hn0 hr1 hn1 (vars_of_laid hL)).mono fun e W' ⟨he, hb⟩ => ?_
  subst he
  have hps : ∀ x : MemPlace, x ∈ p0 ++ (p1 ++ ([] ++ ([] ++ ([])))) → x.block < W.heap.size := fun x hx => hW'.lt x (by rw [List.append_nil]; exact hx)
  clear hA0
  simp only [List.append_nil] at hW'
  refine ⟨_, rfl, _, _, _, [], p0 ++ (p1 ++ ([] ++ ([] ++ ([])))), [], hW', trodAll_cons_mk (shut_bool Tryd.underlying4 _) trodAll_mk0, ?_, rfl, hb.frame _, fun h => by cases h⟩
  exact all_stays hb _ (by rw [Tryd.params7]; intro t ht; simp at ht; rcases ht with rfl | rfl | rfl | rfl <;> first | exact reads_u32 | exact reads_bytes | exact reads_u16 | exact reads_u8 | exact reads_string) hAk hps (fun x hx => by simpa using hps x hx)

set_option maxRecDepth 100000 in
/-- the witness reads -/
theorem reads (os : Os) {H : Type} (enc : TypeId × Value → H) : ∃ places, DataW.whole enc Tryd.prog ((laidWorld os).forCall (fun _ _ => 0) ⟨#[], #[.slice none 0 0, .slice none 0 0, .int .u16 0, .int .u8 0], []⟩).memory Tryd.f7.params.toList Rows.crcHoldsSpec.vars false #[Value.slice none 0 0, .slice none 0 0, .int .u16 0, .int .u8 0].toList 8 = some ([.nil, .nil, .lit (.int .u16 0), .lit (.int .u8 0)], [], places) :=
  ⟨[], by kernel_rfl⟩
set_option maxRecDepth 100000 in
/-- the row's step -/
theorem lifted (os : Os) (started : os.Started) (H : Type) (enc : TypeId × Value → H) (F : Stop.Interp) :
    ReturnsInHanded {} Tryd.checked os 7 .any ((OpenSpec.ofChange Rows.crcHoldsSpec).preRow enc Tryd.prog Tryd.f7 Rows.crcHoldsRow.domain false Rows.crcHoldsRow.laid) (((OpenSpec.ofChange Rows.crcHoldsSpec).at F).post enc Tryd.prog Tryd.f7 false true false false) := by
  obtain ⟨places, hx⟩ := reads os enc
  refine returnsInHanded_of_row (C := Tryd.checked) (s := OpenSpec.ofChange Rows.crcHoldsSpec) own started (by kernel_rfl) Tryd.func7
    (witness_row_atRef (enc := enc) (C := Tryd.checked) false (laidWorld os) #[.slice none 0 0, .slice none 0 0, .int .u16 0, .int .u8 0] rfl (by kernel_rfl) (by kernel_rfl) (by kernel_rfl)
      (OpenSpec.preRow_of_cond 8 hx (by kernel_rfl) (fun k hk => by cases hk) (by kernel_rfl) (laid_met os _))) ?_
  intro W base args ds gs before hval hW _ _ hsz hL _ _
  exact contract H enc W base args ds gs before hval hW hsz hL

theorem said : Rows.CrcHoldsSaid :=
  OpenClaim.holds_of_cond 7 Tryd.f7 rfl rfl rfl rfl rfl rfl rfl ⟨rfl, rfl, rfl, rfl, rfl⟩ rfl rfl rfl rfl rfl (by kernel_rfl) Tryd.func7 (by kernel_rfl)
    (of_decide_eq_true (by kernel_rfl)) (by unfold Func.isWrapper; first | (rw [if_pos (by decide +kernel)]; kernel_rfl) | (rw [if_neg (by decide +kernel)]; exact ⟨rfl, rfl⟩))
    (fun os started H enc _ F => by rw [OpenClaim.pre_eq_preRow]; exact lifted os started H enc F)

/-- no parameter wants a stand-in; the program's own looks are off -/
theorem plain (f : FuncId) (fn : Func) (hf : Tryd.pinned.checked.prog.funcNamed "redpencil/redpencillaw03.CrcHolds" = some f) (hfn : Tryd.pinned.checked.prog.funcs[f]? = some fn) :
    true = Tryd.pinned.checked.prog.looks [] ∧ ∀ (j : Nat) t, fn.params[j]? = some t → Tryd.pinned.checked.prog.wantsStandIn t = false := by
  obtain rfl : f = 7 := Option.some.inj ((show Tryd.prog.funcNamed "redpencil/redpencillaw03.CrcHolds" = some 7 by kernel_rfl).symm.trans hf) |>.symm
  obtain rfl : fn = Tryd.f7 := (Option.some.inj (Tryd.func7.symm.trans hfn)).symm
  refine ⟨by kernel_rfl, fun j t ht => ?_⟩
  rw [Tryd.params7] at ht
  have ht2 : t = 23 ∨ t = 34 ∨ t = 5 := by have := Array.mem_of_getElem? ht; simp at this; first | exact this | (rcases this with h | h | h | h <;> simp [h])
  rcases ht2 with rfl | rfl | rfl
  · exact (show Tryd.prog.wantsStandIn 23 = false by kernel_rfl)
  · exact (show Tryd.prog.wantsStandIn 34 = false by kernel_rfl)
  · exact (show Tryd.prog.wantsStandIn 5 = false by kernel_rfl)

/-- THE CARD: Update continues a check sum, a changed byte changes it, Open inverts Append, and Parse inverts Text: CrcHolds returns true for every two slices of bytes and every two numbers, and both slices read afterwards as before -/
theorem card : Rows.CrcHoldsCardSaid :=
  Claim7.holds_tied_plain_at .later [] _ _ _ _ said (fun _ h => by cases h) (by kernel_rfl) (fun _ h => by cases h) crcHolds_row_tie rfl ⟨rfl, rfl⟩ (by kernel_rfl) rfl plain (by kernel_rfl)
#print axioms card
end Go.Proofs.YtbmkjjoehancbaaDoor.crcHolds
