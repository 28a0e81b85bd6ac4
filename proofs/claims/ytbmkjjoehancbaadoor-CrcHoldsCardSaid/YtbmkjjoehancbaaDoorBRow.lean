/- What the five rows share: what the listed variables give, what a slice of bytes that came in gives, and that the arguments read as before. -/
import Derived.Test.YtbmkjjoehancbaaDoorAL1
import Derived.Test.YtbmkjjoehancbaaDoorCards
import Derived.Test.YtbmkjjoehancbaaDoorTie
import Derived.WalkKit
import Derived.ProofKit
import Derived.OpenShut
import Derived.Deep.DeepHandedRow
import Derived.Deep.DeepWitnessRowRef
import Derived.Lib.LaidTab
import Derived.Lib.LaidIn
import Derived.Stop.LaidErr
import Derived.WideKeyArgs
import Derived.SizedLaws
namespace Go.Proofs.YtbmkjjoehancbaaDoor.BRow
open Go.ChangeShapes Go.WideShapes Go.ChangeAt Go.RowKit Go.Proofs.YtbmkjjoehancbaaDoor.ACrc Go.Proofs.YtbmkjjoehancbaaDoor.Crc

theorem own : ownKnob Tryd.prog.godebug = none := by kernel_rfl
theorem g5 : Tryd.prog.globalNamed "math/bits.deBruijn64tab" = some 5 := by kernel_rfl
theorem g5Type : (Tryd.prog.globals[5]?).map (·.type) = some 105 := by kernel_rfl
theorem g3 : Tryd.prog.globalNamed "strconv.ErrRange" = some 3 := by kernel_rfl
theorem g3Type : (Tryd.prog.globals[3]?).map (·.type) = some 65 := by kernel_rfl
theorem g2 : Tryd.prog.globalNamed "strconv.ErrSyntax" = some 2 := by kernel_rfl
theorem g2Type : (Tryd.prog.globals[2]?).map (·.type) = some 65 := by kernel_rfl
theorem cells105 : Tryd.prog.cellsOf 105 = 64 := by kernel_rfl
theorem cells5 : Tryd.prog.cellsOf 5 = 1 := by kernel_rfl
theorem bytes5 : Tryd.prog.bytesOf 5 = 1 := by kernel_rfl
theorem cells108 : Tryd.prog.cellsOf 108 = 1 := by kernel_rfl
theorem cells9 : Tryd.prog.cellsOf 9 = 1 := by kernel_rfl
theorem star : "*" ++ "errors.errorString" = "*errors.errorString" := by decide
theorem row106 (u : TypeId) (h : Tryd.prog.typeName? 3 u = some "*errors.errorString") : u = 106 :=
  typeName_ptr_named (nm := "errors.errorString") (by rw [star]; kernel_rfl) (by kernel_rfl) (by decide) u (by rw [star]; exact h)

/-- the variables that every row lists -/
def laidL : List (String × DataW Unit) := [("math/bits.deBruijn32tab", Rows.laid_math_bits_deBruijn32tab), ("math/bits.deBruijn64tab", Rows.laid_math_bits_deBruijn64tab), ("internal/strconv.uint64pow10", Rows.laid_internal_strconv_uint64pow10), ("strconv.ErrRange", Rows.laid_strconv_ErrRange), ("strconv.ErrSyntax", Rows.laid_strconv_ErrSyntax)]
def bruijnL : List Int := [0, 1, 56, 2, 57, 49, 28, 3, 61, 58, 42, 50, 38, 29, 17, 4, 62, 47, 59, 36, 45, 43, 51, 22, 53, 39, 33, 30, 24, 18, 12, 5, 63, 55, 48, 27, 60, 41, 37, 16, 46, 35, 44, 21, 52, 32, 23, 11, 54, 26, 40, 15, 34, 20, 31, 10, 25, 14, 19, 9, 13, 8, 7, 6]

/-- WHAT THE ROW's LIST GIVES -/
theorem vars_of_laid {W : World} (h0 : laidMetH Tryd.prog laidL W) : Vars W := by
  have h : laidMet Tryd.prog laidL W := h0
  have ht : Lib.TabIs Tryd.prog W "math/bits.deBruijn64tab" .u8 bruijnL := Lib.tabIs_of_head g5 g5Type Tryd.underlying105 Tryd.underlying5 cells5 cells105 h.tail
  obtain ⟨a3, _, hv3, _⟩ := laid_sentinel h.tail.tail.tail g3 g3Type Tryd.underlying65 row106 Tryd.underlying106 Tryd.underlying108 rfl rfl Tryd.underlying9 cells108 cells9
  obtain ⟨a2, _, hv2, _⟩ := laid_sentinel h.tail.tail.tail.tail g2 g2Type Tryd.underlying65 row106 Tryd.underlying106 Tryd.underlying108 rfl rfl Tryd.underlying9 cells108 cells9
  refine ⟨ht.cell g5 15 (by decide), ⟨106, .pointer (some a2), ?_⟩, ⟨106, .pointer (some a3), ?_⟩⟩
  · simpa using World.var?_cell g2 hv2 0
  · simpa using World.var?_cell g3 hv3 0

/-- THE WITNESS's WORLD: the settled one, the listed variables holding what their initialisers lay -/
noncomputable def laidWorld (os : Os) : World :=
  let N := (World.settled Tryd.prog os).heap.size
  let w0 := World.holding Tryd.prog os ⟨#[.cells #[.string ⟨#[105, 110, 118, 97, 108, 105, 100, 32, 115, 121, 110, 116, 97, 120]⟩] 108, .cells #[.string ⟨#[118, 97, 108, 117, 101, 32, 111, 117, 116, 32, 111, 102, 32, 114, 97, 110, 103, 101]⟩] 108], #[], []⟩
  let put (h : Array Obj) (g : Nat) (cs : Array Value) : Array Obj := h.modify g fun
    | .cells _ t frozen => .cells cs t frozen
    | o => o
  let h0 := put (put w0.heap 2 #[.iface 106 (.pointer (some ⟨N, 0, none⟩))]) 3 #[.iface 106 (.pointer (some ⟨N + 1, 0, none⟩))]
  let h1 := put h0 0 ((List.range 20).map fun i => Value.int .u64 (10 ^ i)).toArray
  let h2 := put h1 4 (([0, 1, 28, 2, 29, 14, 24, 3, 30, 22, 20, 15, 25, 17, 4, 8, 31, 27, 13, 23, 21, 19, 16, 7, 26, 12, 18, 6, 11, 5, 10, 9] : List Int).map fun z => Value.int .u8 z).toArray
  let h3 := put h2 5 (bruijnL.map fun z => Value.int .u8 z).toArray
  { w0 with heap := h3 }
theorem laid_met (os : Os) (args : Array Value) : laidMet Tryd.prog laidL ((laidWorld os).forCall (fun _ _ => 0) ⟨#[], args, []⟩).memory :=
  laidMet_of_run' 8 (by kernel_rfl) (by kernel_rfl)

section
variable {H : Type} {enc : TypeId × Value → H}

set_option maxRecDepth 100000 in
/-- WHAT A SLICE OF BYTES THAT CAME IN GIVES -/
theorem open_bytes {W : World} {base : Nat} {v : Value} {d : DataW H} {p : List MemPlace} (hval : Value.okWide Tryd.prog W .any base 23 v) (h : DataW.Trod enc Tryd.prog W 0 (fun _ => true) true 23 v d p) (hsz : ∀ e s, d = .slice e s → (e.length + s.length) * Tryd.prog.bytesOf 5 ≤ reachBytes) :
    ∃ A xs c, v = .slice A (List.length xs) c ∧ RdB W A xs ∧ (A = none → c = 0) ∧ xs.length ≤ c := by
  obtain ⟨a1, len, cap, rfl⟩ := okWide_slice Tryd.underlying23 hval
  obtain ⟨fuel, hf⟩ := h
  rcases open_ints Tryd.underlying23 Tryd.underlying5 cells5 hf with ⟨hcs, hx⟩ | ⟨a, len', cap', zs, hcs, _, hl, hm, hz, hx, hcell, hwz⟩
  · simp [Value.cells] at hcs
    obtain ⟨rfl, rfl, rfl⟩ := hcs
    exact ⟨none, [], 0, rfl, ⟨by simp, fun x hx => by simp at hx, fun h => by simp at h⟩, fun _ => rfl, by simp⟩
  · simp [Value.cells] at hcs
    obtain ⟨rfl, rfl, rfl⟩ := hcs
    simp only [if_true] at hz
    have hlen : (zs.take len).length = len := by simp; omega
    simp only [Prod.mk.injEq] at hx
    have hz2 := hsz _ _ hx.1
    rw [bytes5] at hz2
    simp only [lits, List.length_map, List.length_take, List.length_drop, reachBytes] at hz2
    refine ⟨some a, zs.take len, cap, by rw [hlen], ⟨by rw [hlen]; omega, fun x hx => ?_, fun h0 => ?_⟩, (fun h => by cases h), by omega⟩
    · have := bounds_u8 (hwz x (List.mem_of_mem_take hx))
      omega
    · rw [hlen] at h0
      obtain ⟨ab, ao, spot⟩ := a
      have hspot : spot = none := by simpa [Addr.add] using World.cell?_spot (hcell 0 (by omega))
      subst hspot
      refine ⟨ab, ao, rfl, fun j hj => ?_⟩
      rw [hlen] at hj
      have hcj := hcell j (by omega)
      rw [Addr.add_lit] at hcj
      rw [hcj]
      simp [List.getD_eq_getElem?_getD, List.getElem?_take_of_lt hj]

theorem laidOut' : laidOutB Tryd.prog = true := by kernel_rfl
theorem all_stays {W W' : World} (hb : Below W.heap.size W W') (sp : Nat → Bool) : ∀ {ts : List TypeId} {vs : List Value} {ds : List (DataW H)} {ps : List MemPlace},
    (∀ t ∈ ts, Tryd.prog.readableRec t = true ∧ t < Tryd.prog.types.size) → DataW.TrodAll enc Tryd.prog W 0 (fun _ => true) true ts vs ds ps → (∀ x ∈ ps, x.block < W.heap.size) → (∀ x ∈ ps, sp x.block = true) →
    DataW.TrodAll enc Tryd.prog W' 0 sp true ts vs ds ps
  | [], _, _, _, _, h, _, _ => by
    obtain ⟨rfl, rfl, rfl⟩ := trodAll_nil h
    exact trodAll_mk0
  | t :: ts, _, _, _, hr, h, hl, hs => by
    obtain ⟨v0, vs0, d0, ds0, p0, q0, rfl, rfl, rfl, h0, r0⟩ := trodAll_cons h
    exact trodAll_cons_mk (WideElems.Trod_stays laidOut' (hr t (by simp)).1 (hr t (by simp)).2 h0 (fun x hx => hb.same (hl x (by simp [hx]))) (fun x hx => hs x (by simp [hx])))
      (all_stays hb sp (fun u hu => hr u (by simp [hu])) r0 (fun x hx => hl x (by simp [hx])) (fun x hx => hs x (by simp [hx])))
end
theorem reads_u8 : Tryd.prog.readableRec 5 = true ∧ 5 < Tryd.prog.types.size := ⟨by kernel_rfl, of_decide_eq_true (by kernel_rfl)⟩
theorem reads_string : Tryd.prog.readableRec 9 = true ∧ 9 < Tryd.prog.types.size := ⟨by kernel_rfl, of_decide_eq_true (by kernel_rfl)⟩
theorem reads_u32 : Tryd.prog.readableRec 22 = true ∧ 22 < Tryd.prog.types.size := ⟨by kernel_rfl, of_decide_eq_true (by kernel_rfl)⟩
theorem reads_bytes : Tryd.prog.readableRec 23 = true ∧ 23 < Tryd.prog.types.size := ⟨by kernel_rfl, of_decide_eq_true (by kernel_rfl)⟩
theorem reads_u16 : Tryd.prog.readableRec 34 = true ∧ 34 < Tryd.prog.types.size := ⟨by kernel_rfl, of_decide_eq_true (by kernel_rfl)⟩
end Go.Proofs.YtbmkjjoehancbaaDoor.BRow
