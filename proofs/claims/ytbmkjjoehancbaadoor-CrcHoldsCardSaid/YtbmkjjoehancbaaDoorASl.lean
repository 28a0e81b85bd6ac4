/- Slices of bytes that are read and that are owned; append on them; the contracts of crc.bytes, slices.Grow (of nil), slices.Concat (of two), slices.Clone, slices.Equal. -/
import Derived.Test.YtbmkjjoehancbaaDoorAUpd
import Derived.Laws.AppendOwnNone
import Derived.Laws.OwnMore
import Derived.Laws.MakeOwn
import Derived.OwnWalk
import Derived.Lib.AppendZeros
import Derived.Lib.SliceRun
namespace Go.Proofs.YtbmkjjoehancbaaDoor.ACrc
open Go.RowKit Go.Proofs.YtbmkjjoehancbaaDoor.Crc

/-- numbers as bytes -/
def nb (xs : List Int) : List Value := xs.map fun x => .int .u8 x
theorem nb_length (xs : List Int) : (nb xs).length = xs.length := by simp [nb]
theorem nb_append (xs ys : List Int) : nb (xs ++ ys) = nb xs ++ nb ys := by simp [nb]
theorem nb_one (xs : List Int) : ∀ u ∈ nb xs, u.oneCell' = true := by
  intro u hu
  simp only [nb, List.mem_map] at hu
  obtain ⟨x, _, rfl⟩ := hu
  rfl
theorem info5 : (Tryd.prog.info? 5).map (fun i => (i.zero, i.size, i.bytes)) = some (some (.int .u8 0), 1, 1) := by kernel_rfl

/-- a slice value that owns bytes, in blocks from base on -/
def Own (w : World) (base : Nat) (v : Value) (xs : List Int) : Prop := w.ownsRow base 5 1 v xs.length (nb xs)

theorem RdB.news {w : World} {A : Option Addr} {ys : List Int} (h : RdB w A ys) {a : Addr} (ha : A = some a) : ∀ j u, (nb ys)[j]? = some u → w.cell? (a.add j) = some u := by
  intro j u hu
  have hj : j < ys.length := by
    rcases Nat.lt_or_ge j ys.length with h | h
    · exact h
    · rw [List.getElem?_eq_none (by rw [nb_length]; exact h)] at hu; cases hu
  obtain ⟨b, off, e, hc⟩ := h.cells (by omega)
  rw [ha] at e
  cases e
  have := hc j hj
  simp only [nb, List.getElem?_map, List.getElem?_eq_getElem hj, Option.map_some, Option.some.injEq] at hu
  subst hu
  have hadd : (⟨b, off, none⟩ : Addr).add j = ⟨b, off + j, none⟩ := by
    unfold Addr.add
    split
    · rename_i h0; subst h0; rfl
    · rfl
  rw [hadd, this, getD_at _ _ hj]

theorem run_append_bytes (w : World) (base : Nat) (v : Value) (xs : List Int) (hown : Own w base v xs) (A : Option Addr) (ys : List Int) (c : Nat) (hr : RdB w A ys) (hnil : A = none → c = 0)
    (hl : xs.length + ys.length ≤ 140737488355328) (hbase : base ≤ w.heap.size) (ty : TypeId) :
    ∃ v' w', (Builtin.append_ #[23, 23] ty #[v, .slice A ys.length c]).run Tryd.prog w = .ok v' w' ∧ Own w' base v' (xs ++ ys) ∧ w.grownBy w' v.ownBlock := by
  obtain ⟨i0, hi, hz0, hz1, hz2⟩ := info_parts info5
  cases A with
  | none =>
    have hy : ys = [] := by
      rcases Nat.eq_zero_or_pos ys.length with h | h
      · exact List.eq_nil_of_length_eq_zero h
      · obtain ⟨b, off, e, _⟩ := hr.cells h; cases e
    subst hy
    obtain rfl := hnil rfl
    refine ⟨v, w, run_append_owned_none (P := Tryd.prog) w base 23 ty 5 i0 1 Tryd.underlying23 hi v xs.length (nb xs) hown, by rw [List.append_nil]; exact hown, ⟨rfl, rfl, rfl, Nat.le_refl _, fun _ _ _ => rfl⟩⟩
  | some a =>
    obtain ⟨v', w', hrun, h2, h3, _⟩ := run_append_own (P := Tryd.prog) w base 23 ty 5 i0 (.int .u8 0) 1 1 Tryd.underlying23 hi hz0 hz1 hz2 rfl (by decide) v xs.length (nb xs) hown a ys.length c (nb ys)
      (by rw [nb_length, Nat.mul_one]) (hr.news rfl) (nb_one _) (by simp only [maxLen]; omega) (by omega) hbase
    refine ⟨v', w', hrun, ?_, h3⟩
    unfold Own
    rw [nb_append, List.length_append]
    exact h2

/-- the law at the operation -/
theorem wp_append_bytes {w : World} {o : Oper} {a : Act} {K : Act → World → Prop} {Q : Exit → Act → World → Prop} (s x : Operand)
    (ho : o.op = .call { callee := .builtin .append, args := #[s, x], argTypes := #[23, 23] }) (base : Nat) (v : Value) (xs : List Int) (hs : a.eval s = v) (hown : Own w base v xs)
    (A : Option Addr) (ys : List Int) (c : Nat) (hx : a.eval x = .slice A ys.length c) (hr : RdB w A ys) (hnil : A = none → c = 0) (hl : xs.length + ys.length ≤ 140737488355328) (hbase : base ≤ w.heap.size)
    (h : ∀ v' w', Own w' base v' (xs ++ ys) → w.grownBy w' v.ownBlock → K (a.put o.dst v') w') : o.wp Tryd.prog a w K Q := by
  obtain ⟨v', w', hr, h2, h3⟩ := run_append_bytes w base v xs hown A ys c hr hnil hl hbase o.type
  unfold Oper.wp execOp
  simp only [ho, resolve, invoke, builtin, Sem.run_bind, Sem.run_pure, Result.andThen_ok, List.map_toArray, List.map_cons, List.map_nil, hs, hx, hr]
  exact h v' w' h2 h3
theorem wpList_append_bytes {w : World} {ops : Array Oper} {rest : List Oper} {o : Oper} {a : Act} {Q : Exit → Act → World → Prop} (hgd : o.guard = none) (s x : Operand)
    (ho : o.op = .call { callee := .builtin .append, args := #[s, x], argTypes := #[23, 23] }) (base : Nat) (v : Value) (xs : List Int) (hs : a.eval s = v) (hown : Own w base v xs)
    (A : Option Addr) (ys : List Int) (c : Nat) (hx : a.eval x = .slice A ys.length c) (hr : RdB w A ys) (hnil : A = none → c = 0) (hl : xs.length + ys.length ≤ 140737488355328) (hbase : base ≤ w.heap.size)
    (h : ∀ v' w', Own w' base v' (xs ++ ys) → w.grownBy w' v.ownBlock → wpList Tryd.prog ops Q rest (a.put o.dst v') w') : wpList Tryd.prog ops Q (o :: rest) a w :=
  wpList_plain hgd fun _ hK => wp_append_bytes s x ho base v xs hs hown A ys c hx hr hnil hl hbase fun v' w' h2 h3 => hK _ _ (h v' w' h2 h3)

/-- the bytes of a check sum -/
def sumBytes (s : Nat) : List Int := [((s / 16777216 % 256 : Nat) : Int), ((s / 65536 % 256 : Nat) : Int), ((s / 256 % 256 : Nat) : Int), ((s % 256 : Nat) : Int)]
theorem sumBytes_length (s : Nat) : (sumBytes s).length = 4 := rfl
theorem sumBytes_bs (s : Nat) : Bs (sumBytes s) := by
  intro x hx
  simp only [sumBytes, List.mem_cons, List.mem_nil_iff, or_false] at hx
  omega
theorem Own.lit (w : World) (base : Nat) (hb : base ≤ w.heap.size) (xs : List Int) (hl : xs.length ≤ 140737488355328) : Own (w.alloc (.cells (nb xs).toArray 5)) base (.slice (some ⟨w.heap.size, 0, none⟩) xs.length xs.length) xs := by
  have h := World.ownsRow_lit (base := base) (e := 5) (size := 1) w (nb xs).toArray xs.length hb (by simp only [maxLen]; omega) (by simp [nb])
  simpa [Own] using h

set_option maxHeartbeats 1000000 in
set_option maxRecDepth 100000 in
theorem bytes_any (s : Nat) (hs : s < 4294967296) (w : World) :
    Calls Tryd.prog 24 #[.int .u32 (s : Int)] w fun e w' => e = .returned (.slice (some ⟨w.heap.size, 0, none⟩) 4 4) ∧ w' = w.alloc (.cells (nb (sumBytes s)).toArray 5) := by
  go_enter Tryd.func24, Tryd.ntmps24
  go_wp2
  go_ret
  refine ⟨rfl, ?_⟩
  simp only [nb, sumBytes, List.map_cons, List.map_nil]
  rw [show ((s / 16777216 % 256 : Nat) : Int) = (s : Int) / 16777216 from by omega, show ((s / 65536 % 256 : Nat) : Int) = (s : Int) / 65536 % 256 from by omega,
    show ((s / 256 % 256 : Nat) : Int) = (s : Int) / 256 % 256 from by omega, show ((s % 256 : Nat) : Int) = (s : Int) % 256 from by omega]

set_option maxHeartbeats 2000000 in
set_option maxRecDepth 100000 in
/-- slices.Grow(nil, n) -/
theorem grow_nil (n : Nat) (hn : n ≤ 140737488355328) (w : World) :
    Calls Tryd.prog 29 #[.slice none 0 0, .int .i64 (n : Int)] w fun e w' => ∃ v, e = .returned v ∧ Own w' w.heap.size v [] ∧ Below w.heap.size w w' := by
  have h1 : ¬ ((n : Int) < 0) := by omega
  by_cases h0 : n = 0
  · subst h0
    go_enter Tryd.func29, Tryd.ntmps29
    go_wp2
    go_ret
    exact ⟨_, rfl, World.ownsRow_nil _ _ _ _, Below.refl _ _⟩
  · obtain ⟨i0, hi, hz0, hz1, hz2⟩ := info_parts info5
    have hp : (0 : Int) < (n : Int) := by omega
    have hrz := fun ty => Lib.run_append_nil_zeros (P := Tryd.prog) w 23 3 ty 5 i0 (.int .u8 0) .i64 .i64 Tryd.underlying23 Tryd.underlying3 hi hz0 n (by omega) (by omega) (by omega) (by rw [hz2]; omega)
    have hGn : n ≤ grownCap w n 0 5 := grownCap_ge w _ _ _
    have hG63 := grownCap_le_maxLen w n 0 5 (by unfold maxLen; omega)
    obtain ⟨G, hG⟩ : ∃ G, G = grownCap w n 0 5 := ⟨_, rfl⟩
    rw [← hG] at hrz hGn hG63
    have hown : (w.drew.alloc (.cells (Builtin.zeroCells (Value.int .u8 0).cells n ++ Builtin.zeroCells (Value.int .u8 0).cells (G - n)) 5)).ownsRow w.heap.size 5 1 (.slice (some ⟨w.heap.size, 0, none⟩) 0 G) 0 [] :=
      World.ownsRow_made (base := w.heap.size) (e := 5) (size := 1) w.drew _ G (Nat.le_refl _) hG63 (by simp [size_zeroCells, Value.cells]; omega)
    have hB : Below w.heap.size w (w.drew.alloc (.cells (Builtin.zeroCells (Value.int .u8 0).cells n ++ Builtin.zeroCells (Value.int .u8 0).cells (G - n)) 5)) := (Below.refl _ _).drew.alloc (Nat.le_refl _) _
    generalize (w.drew.alloc (.cells (Builtin.zeroCells (Value.int .u8 0).cells n ++ Builtin.zeroCells (Value.int .u8 0).cells (G - n)) 5)) = wx at *
    unfold maxLen at hG63
    clear hG hi hz0 hz1 hz2
    go_enter Tryd.func29, Tryd.ntmps29
    go_wp2_with (at_builtin; refine Lib.wpList_append_run _ rfl _ _ _ _ rfl _ _ rfl rfl _ _ (hrz _) ?_)
    all_goals (go_ret; exact ⟨_, rfl, hown, hB⟩)

/-- an owned slice reads as what it owns -/
theorem Own.reads {w : World} {base : Nat} {v : Value} {xs : List Int} (h : Own w base v xs) (hb : Bs xs) (hl : xs.length ≤ 140737488351232) :
    ∃ A c, v = .slice A xs.length c ∧ RdB w A xs ∧ (A = none → c = 0) := by
  rcases h.2 with ⟨rfl, h0⟩ | ⟨g, cap, cur, rfl, hbg, hg, hnc, hm, hcs, ht⟩
  · have hx : xs = [] := List.eq_nil_of_length_eq_zero h0
    subst hx
    exact ⟨none, 0, rfl, ⟨by simp, fun x hx => by simp at hx, fun h => by simp at h⟩, fun _ => rfl⟩
  · refine ⟨_, cap, rfl, ⟨hl, hb, fun _ => ⟨g, 0, rfl, fun j hj => ?_⟩⟩, fun h => by cases h⟩
    have hc := World.ownsRow.cellAt h j (by omega)
    rw [Nat.zero_add, hc]
    simp [nb, hj, List.getD_eq_getElem?_getD]
theorem Own.kept {w w' : World} {base : Nat} {v : Value} {xs : List Int} (h : Own w base v xs) (hb : Below w.heap.size w w') : Own w' base v xs :=
  World.ownsRow.kept (row := none) h ⟨hb.os, hb.tape, hb.output, hb.size, fun i hi _ => hb.block i hi⟩ (by cases v.ownBlock <;> simp)
theorem Own.below {w0 w w' : World} {base : Nat} {v : Value} {xs : List Int} (h : Own w base v xs) (hB : Below base w0 w) (hbase : base ≤ w.heap.size) (hg : w.grownBy w' v.ownBlock) : Below base w0 w' :=
  hB.grown hg hbase (fun k hk => (World.ownsRow.lt h k hk).1)

set_option maxHeartbeats 4000000 in
set_option maxRecDepth 100000 in
/-- slices.Concat(x, y) -/
theorem concat2 (w : World) (bs : Nat) (A1 A2 : Option Addr) (xs ys : List Int) (c1 c2 : Nat) (h0 : w.cell? ⟨bs, 0, none⟩ = some (.slice A1 xs.length c1)) (h1 : w.cell? ⟨bs, 1, none⟩ = some (.slice A2 ys.length c2))
    (hr1 : RdB w A1 xs) (hn1 : A1 = none → c1 = 0) (hr2 : RdB w A2 ys) (hn2 : A2 = none → c2 = 0) (hl : xs.length + ys.length ≤ 140737488355328) :
    Calls Tryd.prog 23 #[.slice (some ⟨bs, 0, none⟩) 2 2] w fun e w' => ∃ v, e = .returned v ∧ Own w' w.heap.size v (xs ++ ys) ∧ Below w.heap.size w w' := by
  have HR1 := Lib.hid hr1
  have HR2 := Lib.hid hr2
  have HN1 := Lib.hid hn1
  have HN2 := Lib.hid hn2
  clear hr1 hr2 hn1 hn2
  have H0 := Lib.hid h0
  have H1 := Lib.hid h1
  go_enter Tryd.func23, Tryd.ntmps23
  go_wp2
  go_loop [3, 11] (fun sz i => (i = .int .i64 0 ∧ sz = .int .i64 0) ∨ (i = .int .i64 1 ∧ sz = .int .i64 (xs.length : Int)) ∨ (i = .int .i64 2 ∧ sz = .int .i64 ((xs.length + ys.length : Nat) : Int))) (fun _ i => 2 - (intOf i).toNat)
  case atStart => exact .inl ⟨rfl, rfl⟩
  case round =>
    rcases hrel with ⟨rfl, rfl⟩ | ⟨rfl, rfl⟩ | ⟨rfl, rfl⟩
    · go_wp2
      go_round
      case rel => exact .inr (.inl ⟨rfl, by go_num⟩)
      case measure => simp [intOf]
    · go_wp2
      go_round
      case rel => exact .inr (.inr ⟨rfl, by go_num⟩)
      case measure => simp [intOf]
    · go_wp2_with (go_at_call 29; refine (grow_nil (xs.length + ys.length) hl _).mono ?_; rintro e w1 ⟨v, rfl, hown, hB⟩)
      have hsw := hB.size
      clear h0 h1
      go_loopw [6, 27] (fun v6 i wr => ∃ zs : List Int, Own wr w.heap.size v6 zs ∧ Below w.heap.size w wr ∧ ((i = .int .i64 0 ∧ zs = []) ∨ (i = .int .i64 1 ∧ zs = xs) ∨ (i = .int .i64 2 ∧ zs = xs ++ ys))) (fun _ i _ => 2 - (intOf i).toNat)
      case atStart => exact ⟨[], hown, hB, .inl ⟨rfl, rfl⟩⟩
      case round =>
        clear hown hB hsw
        obtain ⟨zs, hown, hB, hz⟩ := hrel
        have HO := Lib.hid hown
        have HB := Lib.hid hB
        clear hown
        rcases hz with ⟨rfl, rfl⟩ | ⟨rfl, rfl⟩ | ⟨rfl, rfl⟩
        · have hc := (hB.cell (p := ⟨bs, 0, none⟩) (World.block_lt_of_cell? w _ H0.out)).trans H0.out
          clear hB
          go_wp2_with (at_builtin; refine wpList_append_bytes rfl _ _ rfl w.heap.size _ [] rfl HO.out A1 xs c1 rfl (HR1.out.below HB.out (Nat.le_refl _)) HN1.out (by simp; omega) HB.out.size ?_; intro v' w' hown' hg)
          have R : Own w' w.heap.size v' xs := hown'
          have R2 := Own.below HO.out HB.out HB.out.size hg
          clear hown' hg hc
          go_wp2
          go_roundw
          case rel => exact ⟨xs, R, R2, .inr (.inl ⟨rfl, rfl⟩)⟩
          case measure => simp [intOf]
        · have hc := (hB.cell (p := ⟨bs, 1, none⟩) (World.block_lt_of_cell? w _ H1.out)).trans H1.out
          clear hB
          go_wp2_with (at_builtin; refine wpList_append_bytes rfl _ _ rfl w.heap.size _ zs rfl HO.out A2 ys c2 rfl (HR2.out.below HB.out (Nat.le_refl _)) HN2.out (by omega) HB.out.size ?_; intro v' w' hown' hg)
          have R2 := Own.below HO.out HB.out HB.out.size hg
          have R := Lib.hid hown'
          clear hown' hg hc
          go_wp2
          go_roundw
          case rel => exact ⟨zs ++ ys, R.out, R2, .inr (.inr ⟨rfl, rfl⟩)⟩
          case measure => simp [intOf]
        · clear hB
          go_wp2
          go_ret
          exact ⟨_, rfl, HO.out, HB.out⟩
end Go.Proofs.YtbmkjjoehancbaaDoor.ACrc
