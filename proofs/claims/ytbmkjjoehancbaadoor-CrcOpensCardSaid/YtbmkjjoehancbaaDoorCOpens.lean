/- What is proved, as the given card of Opens (Rows.CrcOpensCardSaid) states it: any bytes with their check sum, and the bytes of any that may have one, are the reference's: CrcOpens returns true for every two slices of bytes, and both read afterwards as before. Its condition: the package-level variables that the row lists hold what their initialisers lay; the card ties that to the program's text. -/
import Derived.Test.YtbmkjjoehancbaaDoorBRow
import Derived.Test.YtbmkjjoehancbaaDoorAL4
import Derived.Test.YtbmkjjoehancbaaDoorAKn
namespace Go.Proofs.YtbmkjjoehancbaaDoor.crcOpens
open Go.ChangeShapes Go.WideShapes Go.ChangeAt Go.RowKit Go.Proofs.YtbmkjjoehancbaaDoor.ACrc Go.Proofs.YtbmkjjoehancbaaDoor.Crc Go.Proofs.YtbmkjjoehancbaaDoor.BRow
open Go.ChangeMaps (open_string shut_string)

theorem known : KnownOk := fun W h => known_any W h
set_option maxRecDepth 100000 in
/-- what the walk gives, for every argument and every world that holds the variables -/
theorem contract (H : Type) (enc : TypeId × Value → H) (W : World) (base : Nat) (args : Array Value) (ds gs : List (DataW H)) (before : List MemPlace)
    (hval : ∀ (j : Nat) t v, Tryd.f4.params[j]? = some t → args[j]? = some v → Value.okWide Tryd.prog W .any base t v)
    (hW : DataW.Whole enc Tryd.prog Tryd.f4.params.toList Rows.crcOpensSpec.vars false W args.toList ds gs before)
    (hsz : (DataW.weightsEach Tryd.prog (Tryd.f4.params.toList ++ []) (ds ++ gs)).all (· ≤ reachBytes) = true) (hL : laidMetH Tryd.prog laidL W) :
    Calls Tryd.prog 4 args W fun e W' => ∃ v, e = .returned v ∧ Rows.crcOpensSpec.post enc Tryd.prog Tryd.f4 false true false false W args v W' := by
  have hW' := hW
  obtain ⟨p, q, hA0, hV, rfl, hfz, hnd⟩ := hW
  have hA : DataW.TrodAll enc Tryd.prog W 0 (fun _ => true) true Tryd.f4.params.toList args.toList ds p := hA0
  have hAk := hA
  rw [Tryd.params4] at hA hval hsz
  obtain ⟨v0, vs0, d0, ds0, p0, q0, hargs, rfl, rfl, h0, r0⟩ := trodAll_cons hA
  obtain ⟨v1, vs1, d1, ds1, p1, q1, rfl, rfl, rfl, h1, r1⟩ := trodAll_cons r0
  obtain ⟨rfl, rfl, rfl⟩ := trodAll_nil r1
  obtain rfl : args = #[v0, v1] := by cases args; simp_all
  obtain ⟨rfl, rfl⟩ := trodVars_none hV
  obtain ⟨A0, xs0, c0, rfl, hr0, hn0, hc0⟩ := open_bytes (hval 0 23 v0 rfl rfl) h0 (fun e s hd => sized_slice hsz (j := 0) rfl (by subst hd; rfl) Tryd.underlying23)
  obtain ⟨A1, xs1, c1, rfl, hr1, hn1, hc1⟩ := open_bytes (hval 1 23 v1 rfl rfl) h1 (fun e s hd => sized_slice hsz (j := 1) rfl (by subst hd; rfl) Tryd.underlying23)
  refine (copens_any known A0 A1 xs0 xs1 c0 c1 W hr0 hn0 hc0 hr1 hn1 hc1 (vars_of_laid hL)).mono fun e W' ⟨he, hb⟩ => ?_
  subst he
  have hps : ∀ x : MemPlace, x ∈ p0 ++ (p1 ++ ([])) → x.block < W.heap.size := fun x hx => hW'.lt x (by rw [List.append_nil]; exact hx)
  clear hA0
  simp only [List.append_nil] at hW'
  refine ⟨_, rfl, _, _, _, [], p0 ++ (p1 ++ ([])), [], hW', trodAll_cons_mk (shut_bool Tryd.underlying4 _) trodAll_mk0, ?_, rfl, hb.frame _, fun h => by cases h⟩
  exact all_stays hb _ (by rw [Tryd.params4]; intro t ht; simp at ht; rcases ht with rfl | rfl <;> first | exact reads_u32 | exact reads_bytes | exact reads_u16 | exact reads_u8 | exact reads_string) hAk hps (fun x hx => by simpa using hps x hx)

set_option maxRecDepth 100000 in
/-- the witness reads -/
theorem reads (os : Os) {H : Type} (enc : TypeId × Value → H) : ∃ places, DataW.whole enc Tryd.prog ((laidWorld os).forCall (fun _ _ => 0) ⟨#[], #[.slice none 0 0, .slice none 0 0], []⟩).memory Tryd.f4.params.toList Rows.crcOpensSpec.vars false #[Value.slice none 0 0, .slice none 0 0].toList 8 = some ([.nil, .nil], [], places) :=
  ⟨[], by kernel_rfl⟩
set_option maxRecDepth 100000 in
/-- the row's step -/
theorem lifted (os : Os) (started : os.Started) (H : Type) (enc : TypeId × Value → H) (F : Stop.Interp) :
    ReturnsInHanded {} Tryd.checked os 4 .any ((OpenSpec.ofChange Rows.crcOpensSpec).preRow enc Tryd.prog Tryd.f4 Rows.crcOpensRow.domain false Rows.crcOpensRow.laid) (((OpenSpec.ofChange Rows.crcOpensSpec).at F).post enc Tryd.prog Tryd.f4 false true false false) := by
  obtain ⟨places, hx⟩ := reads os enc
  refine returnsInHanded_of_row (C := Tryd.checked) (s := OpenSpec.ofChange Rows.crcOpensSpec) own started (by kernel_rfl) Tryd.func4
    (witness_row_atRef (enc := enc) (C := Tryd.checked) false (laidWorld os) #[.slice none 0 0, .slice none 0 0] rfl (by kernel_rfl) (by kernel_rfl) (by kernel_rfl)
      (OpenSpec.preRow_of_cond 8 hx (by kernel_rfl) (fun k hk => by cases hk) (by kernel_rfl) (laid_met os _))) ?_
  intro W base args ds gs before hval hW _ _ hsz hL _ _
  exact contract H enc W base args ds gs before hval hW hsz hL

theorem said : Rows.CrcOpensSaid :=
  OpenClaim.holds_of_cond 4 Tryd.f4 rfl rfl rfl rfl rfl rfl rfl ⟨rfl, rfl, rfl, rfl, rfl⟩ rfl rfl rfl rfl rfl (by kernel_rfl) Tryd.func4 (by kernel_rfl)
    (of_decide_eq_true (by kernel_rfl)) (by unfold Func.isWrapper; first | (rw [if_pos (by decide +kernel)]; kernel_rfl) | (rw [if_neg (by decide +kernel)]; exact ⟨rfl, rfl⟩))
    (fun os started H enc _ F => by rw [OpenClaim.pre_eq_preRow]; exact lifted os started H enc F)

/-- no parameter wants a stand-in; the program's own looks are off -/
theorem plain (f : FuncId) (fn : Func) (hf : Tryd.pinned.checked.prog.funcNamed "redpencil/redpencillaw03.CrcOpens" = some f) (hfn : Tryd.pinned.checked.prog.funcs[f]? = some fn) :
    true = Tryd.pinned.checked.prog.looks [] ∧ ∀ (j : Nat) t, fn.params[j]? = some t → Tryd.pinned.checked.prog.wantsStandIn t = false := by
  obtain rfl : f = 4 := Option.some.inj ((show Tryd.prog.funcNamed "redpencil/redpencillaw03.CrcOpens" = some 4 by kernel_rfl).symm.trans hf) |>.symm
  obtain rfl : fn = Tryd.f4 := (Option.some.inj (Tryd.func4.symm.trans hfn)).symm
  refine ⟨by kernel_rfl, fun j t ht => ?_⟩
  rw [Tryd.params4] at ht
  have ht2 : t = 23 := by have := Array.mem_of_getElem? ht; simp at this; first | exact this | (rcases this with h | h <;> simp [h])
  rcases ht2 with rfl
  · exact (show Tryd.prog.wantsStandIn 23 = false by kernel_rfl)

/-- THE CARD: any bytes with their check sum, and the bytes of any that may have one, are the reference's: CrcOpens returns true for every two slices of bytes, and both read afterwards as before -/
theorem card : Rows.CrcOpensCardSaid :=
  Claim7.holds_tied_plain_at .later [] _ _ _ _ said (fun _ h => by cases h) (by kernel_rfl) (fun _ h => by cases h) crcOpens_row_tie rfl ⟨rfl, rfl⟩ (by kernel_rfl) rfl plain (by kernel_rfl)
#print axioms card
end Go.Proofs.YtbmkjjoehancbaaDoor.crcOpens
