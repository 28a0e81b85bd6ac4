/- What is proved, as the given card of Texts (Rows.CrcTextsCardSaid) states it: the text of any check sum, and the check sum with any text, are the reference's: CrcTexts returns true for every number and every string. Its condition: the package-level variables that the row lists hold what their initialisers lay; the card ties that to the program's text. -/
import Derived.Test.YtbmkjjoehancbaaDoorBRow
import Derived.Test.YtbmkjjoehancbaaDoorAL2
import Derived.Test.YtbmkjjoehancbaaDoorAKn
namespace Go.Proofs.YtbmkjjoehancbaaDoor.crcTexts
open Go.ChangeShapes Go.WideShapes Go.ChangeAt Go.RowKit Go.Proofs.YtbmkjjoehancbaaDoor.ACrc Go.Proofs.YtbmkjjoehancbaaDoor.Crc Go.Proofs.YtbmkjjoehancbaaDoor.BRow
open Go.ChangeMaps (open_string shut_string)

theorem known : KnownOk := fun W h => known_any W h
set_option maxRecDepth 100000 in
/-- what the walk gives, for every argument and every world that holds the variables -/
theorem contract (H : Type) (enc : TypeId × Value → H) (W : World) (base : Nat) (args : Array Value) (ds gs : List (DataW H)) (before : List MemPlace)
    (hval : ∀ (j : Nat) t v, Tryd.f6.params[j]? = some t → args[j]? = some v → Value.okWide Tryd.prog W .any base t v)
    (hW : DataW.Whole enc Tryd.prog Tryd.f6.params.toList Rows.crcTextsSpec.vars false W args.toList ds gs before)
    (hsz : (DataW.weightsEach Tryd.prog (Tryd.f6.params.toList ++ []) (ds ++ gs)).all (· ≤ reachBytes) = true) (hL : laidMetH Tryd.prog laidL W) :
    Calls Tryd.prog 6 args W fun e W' => ∃ v, e = .returned v ∧ Rows.crcTextsSpec.post enc Tryd.prog Tryd.f6 false true false false W args v W' := by
  have hW' := hW
  obtain ⟨p, q, hA0, hV, rfl, hfz, hnd⟩ := hW
  have hA : DataW.TrodAll enc Tryd.prog W 0 (fun _ => true) true Tryd.f6.params.toList args.toList ds p := hA0
  have hAk := hA
  rw [Tryd.params6] at hA hval hsz
  obtain ⟨v0, vs0, d0, ds0, p0, q0, hargs, rfl, rfl, h0, r0⟩ := trodAll_cons hA
  obtain ⟨v1, vs1, d1, ds1, p1, q1, rfl, rfl, rfl, h1, r1⟩ := trodAll_cons r0
  obtain ⟨rfl, rfl, rfl⟩ := trodAll_nil r1
  obtain rfl : args = #[v0, v1] := by cases args; simp_all
  obtain ⟨rfl, rfl⟩ := trodVars_none hV
  obtain ⟨n0, rfl, rfl, rfl, wn0⟩ := open_int Tryd.underlying22 (hval 0 22 v0 rfl rfl) h0
  have hb0 := bounds_u32 wn0
  obtain ⟨m0, rfl⟩ : ∃ m : Nat, n0 = (m : Int) := ⟨n0.toNat, by omega⟩
  obtain ⟨s1, rfl, rfl, rfl, hs1⟩ := open_string Tryd.underlying9 (hval 1 9 v1 rfl rfl) h1
  have hs1 : s1.size ≤ 281474976710656 := by
    have h := sized_string hsz (j := 1) (bytes := s1.data.toList) rfl rfl
    rw [Array.length_toList, show reachBytes = 140737488351232 from rfl] at h
    have e : s1.data.size = s1.size := rfl
    omega
  refine (texts_any known m0 (by omega) s1 hs1 W (vars_of_laid hL)).mono fun e W' ⟨he, hb⟩ => ?_
  subst he
  have hps : ∀ x : MemPlace, x ∈ [] ++ ([] ++ ([])) → x.block < W.heap.size := fun x hx => hW'.lt x (by rw [List.append_nil]; exact hx)
  clear hA0
  simp only [List.append_nil] at hW'
  refine ⟨_, rfl, _, _, _, [], [] ++ ([] ++ ([])), [], hW', trodAll_cons_mk (shut_bool Tryd.underlying4 _) trodAll_mk0, ?_, rfl, hb.frame _, fun h => by cases h⟩
  exact all_stays hb _ (by rw [Tryd.params6]; intro t ht; simp at ht; rcases ht with rfl | rfl <;> first | exact reads_u32 | exact reads_bytes | exact reads_u16 | exact reads_u8 | exact reads_string) hAk hps (fun x hx => by simpa using hps x hx)

set_option maxRecDepth 100000 in
/-- the witness reads -/
theorem reads (os : Os) {H : Type} (enc : TypeId × Value → H) : ∃ places, DataW.whole enc Tryd.prog ((laidWorld os).forCall (fun _ _ => 0) ⟨#[], #[.int .u32 0, .string ⟨#[]⟩], []⟩).memory Tryd.f6.params.toList Rows.crcTextsSpec.vars false #[Value.int .u32 0, .string ⟨#[]⟩].toList 8 = some ([.lit (.int .u32 0), .lit (.string [])], [], places) :=
  ⟨[], by kernel_rfl⟩
set_option maxRecDepth 100000 in
/-- the row's step -/
theorem lifted (os : Os) (started : os.Started) (H : Type) (enc : TypeId × Value → H) (F : Stop.Interp) :
    ReturnsInHanded {} Tryd.checked os 6 .any ((OpenSpec.ofChange Rows.crcTextsSpec).preRow enc Tryd.prog Tryd.f6 Rows.crcTextsRow.domain false Rows.crcTextsRow.laid) (((OpenSpec.ofChange Rows.crcTextsSpec).at F).post enc Tryd.prog Tryd.f6 false true false false) := by
  obtain ⟨places, hx⟩ := reads os enc
  refine returnsInHanded_of_row (C := Tryd.checked) (s := OpenSpec.ofChange Rows.crcTextsSpec) own started (by kernel_rfl) Tryd.func6
    (witness_row_atRef (enc := enc) (C := Tryd.checked) false (laidWorld os) #[.int .u32 0, .string ⟨#[]⟩] rfl (by kernel_rfl) (by kernel_rfl) (by kernel_rfl)
      (OpenSpec.preRow_of_cond 8 hx (by kernel_rfl) (fun k hk => by cases hk) (by kernel_rfl) (laid_met os _))) ?_
  intro W base args ds gs before hval hW _ _ hsz hL _ _
  exact contract H enc W base args ds gs before hval hW hsz hL

theorem said : Rows.CrcTextsSaid :=
  OpenClaim.holds_of_cond 6 Tryd.f6 rfl rfl rfl rfl rfl rfl rfl ⟨rfl, rfl, rfl, rfl, rfl⟩ rfl rfl rfl rfl rfl (by kernel_rfl) Tryd.func6 (by kernel_rfl)
    (of_decide_eq_true (by kernel_rfl)) (by unfold Func.isWrapper; first | (rw [if_pos (by decide +kernel)]; kernel_rfl) | (rw [if_neg (by decide +kernel)]; exact ⟨rfl, rfl⟩))
    (fun os started H enc _ F => by rw [OpenClaim.pre_eq_preRow]; exact lifted os started H enc F)

/-- no parameter wants a stand-in; the program's own looks are off -/
theorem plain (f : FuncId) (fn : Func) (hf : Tryd.pinned.checked.prog.funcNamed "redpencil/redpencillaw03.CrcTexts" = some f) (hfn : Tryd.pinned.checked.prog.funcs[f]? = some fn) :
    true = Tryd.pinned.checked.prog.looks [] ∧ ∀ (j : Nat) t, fn.params[j]? = some t → Tryd.pinned.checked.prog.wantsStandIn t = false := by
  obtain rfl : f = 6 := Option.some.inj ((show Tryd.prog.funcNamed "redpencil/redpencillaw03.CrcTexts" = some 6 by kernel_rfl).symm.trans hf) |>.symm
  obtain rfl : fn = Tryd.f6 := (Option.some.inj (Tryd.func6.symm.trans hfn)).symm
  refine ⟨by kernel_rfl, fun j t ht => ?_⟩
  rw [Tryd.params6] at ht
  have ht2 : t = 22 ∨ t = 9 := by have := Array.mem_of_getElem? ht; simp at this; first | exact this | (rcases this with h | h <;> simp [h])
  rcases ht2 with rfl | rfl
  · exact (show Tryd.prog.wantsStandIn 22 = false by kernel_rfl)
  · exact (show Tryd.prog.wantsStandIn 9 = false by kernel_rfl)

/-- THE CARD: the text of any check sum, and the check sum with any text, are the reference's: CrcTexts returns true for every number and every string -/
theorem card : Rows.CrcTextsCardSaid :=
  Claim7.holds_tied_plain_at .later [] _ _ _ _ said (fun _ h => by cases h) (by kernel_rfl) (fun _ h => by cases h) crcTexts_row_tie rfl ⟨rfl, rfl⟩ (by kernel_rfl) rfl plain (by kernel_rfl)
#print axioms card
end Go.Proofs.YtbmkjjoehancbaaDoor.crcTexts
