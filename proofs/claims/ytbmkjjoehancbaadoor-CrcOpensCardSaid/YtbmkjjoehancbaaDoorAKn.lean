/- The contract of the law file's examples of the chapter. -/
import Derived.Test.YtbmkjjoehancbaaDoorALw
import Derived.Lib.SlBytesConst
import Derived.Deep.RegionHeld3
namespace Go.Proofs.YtbmkjjoehancbaaDoor.ACrc
open Go.RowKit Go.Proofs.YtbmkjjoehancbaaDoor.Crc

theorem kt0 : text (sum []) = ⟨#[48, 48, 48, 48, 48, 48, 48, 48]⟩ := by decide +kernel
theorem kt1 : text (sum [97]) = ⟨#[99, 49, 100, 48, 52, 51, 51, 48]⟩ := by decide +kernel
theorem kt2 : text (sum [97, 98, 99]) = ⟨#[51, 54, 52, 98, 51, 102, 98, 55]⟩ := by decide +kernel
theorem kt3 : text (sum [49, 50, 51, 52, 53, 54, 55, 56, 57]) = ⟨#[101, 51, 48, 54, 57, 50, 56, 51]⟩ := by decide +kernel
theorem kt4 : text (update (sum [49, 50, 51, 52, 53]) [54, 55, 56, 57]) = ⟨#[101, 51, 48, 54, 57, 50, 56, 51]⟩ := by decide +kernel
theorem kt5 : [97] ++ sumBytes (sum [97]) = [97, 193, 208, 67, 48] := by decide +kernel
theorem ko1 : (decide ((openR [97, 193, 208, 67, 48]).1 = [97]) && ((openR [97, 193, 208, 67, 48]).2 == 0)) = true := by decide +kernel
theorem ko2 : (decide ((openR []).1 = []) && ((openR []).2 == 4)) = true := by decide +kernel
theorem ko3 : (decide ((openR [0, 0, 0, 0]).1 = []) && ((openR [0, 0, 0, 0]).2 == 0)) = true := by decide +kernel
theorem ko4 : (decide ((openR [0, 0, 0, 1]).1 = []) && ((openR [0, 0, 0, 1]).2 == 10)) = true := by decide +kernel
theorem ko5 : (decide ((openR [97, 193, 208, 67, 49]).1 = []) && ((openR [97, 193, 208, 67, 49]).2 == 10)) = true := by decide +kernel
theorem kp1 : (((parseR ⟨#[99, 49, 100, 48, 52, 51, 51, 48]⟩).1 == 3251651376) && ((parseR ⟨#[99, 49, 100, 48, 52, 51, 51, 48]⟩).2 == 0)) = true := by decide +kernel
theorem kp2 : (((parseR ⟨#[67, 49, 68, 48, 52, 51, 51, 48]⟩).1 == 0) && ((parseR ⟨#[67, 49, 68, 48, 52, 51, 51, 48]⟩).2 == 6)) = true := by decide +kernel
theorem Bs_dec (xs : List Int) (h : (xs.all fun x => decide (0 ≤ x) && decide (x < 256)) = true) : Bs xs := fun x hx => by
  have := List.all_eq_true.1 h x hx
  simp at this
  exact this
theorem RdB_nil (w : World) (A : Option Addr) : RdB w A [] := ⟨by simp, fun x hx => by simp at hx, fun h => by simp at h⟩
theorem RdB_lit (w : World) (xs : List Int) (h : (xs.all fun x => decide (0 ≤ x) && decide (x < 256)) = true) (hl : xs.length ≤ 140737488351232) : RdB (w.alloc (.cells (nb xs).toArray 5)) (some ⟨w.heap.size, 0, none⟩) xs := RdB.lit w xs (Bs_dec xs h) hl

theorem RdB_mark (w : World) (xs : List Int) (fr : Nat × Nat) (h : (xs.all fun x => decide (0 ≤ x) && decide (x < 256)) = true) (hl : xs.length ≤ 140737488351232) : RdB (w.alloc (.cells (nb xs).toArray 5 fr)) (some ⟨w.heap.size, 0, none⟩) xs :=
  ⟨hl, Bs_dec xs h, fun _ => ⟨_, _, rfl, fun j hj => by
    rw [World.cell?_alloc_mark]
    simp [nb, hj, List.getD_eq_getElem?_getD]⟩⟩

/-- a block of bytes -/
structure Row (W : World) (g : Nat) (xs : List Int) : Prop where
  at' : ∃ fr, W.heap[g]? = some (.cells (nb xs).toArray 5 fr)
/-- the blocks of bytes of one world are those of another -/
structure Keeps (X Y : World) : Prop where
  row : ∀ g xs, Row X g xs → Row Y g xs
theorem Row.new (W : World) (g : Nat) (xs : List Int) (cs : Array Value) (fr : Nat × Nat) (hg : g = W.heap.size) (hc : cs = (nb xs).toArray) : Row (W.alloc (.cells cs 5 fr)) g xs :=
  ⟨⟨fr, by subst hg hc; show (W.heap.push _)[W.heap.size]? = _; simp⟩⟩
theorem Row.lt {W : World} {g : Nat} {xs : List Int} (h : Row W g xs) : g < W.heap.size := by
  obtain ⟨fr, h⟩ := h.at'
  rcases Nat.lt_or_ge g W.heap.size with h' | h'
  · exact h'
  · rw [Array.getElem?_eq_none h'] at h; cases h
theorem Row.old {W : World} {g : Nat} {xs : List Int} {o : Obj} (h : Row W g xs) : Row (W.alloc o) g xs := by
  have hl := h.lt
  obtain ⟨fr, h⟩ := h.at'
  exact ⟨⟨fr, by show (W.heap.push _)[g]? = _; rw [Array.getElem?_push_lt hl, ← h, Array.getElem?_eq_getElem hl]⟩⟩
theorem Row.drew {W : World} {g : Nat} {xs : List Int} (h : Row W g xs) : Row W.drew g xs := ⟨h.at'⟩
theorem Row.keep {X Y : World} {g : Nat} {xs : List Int} (k : Keeps X Y) (h : Row X g xs) : Row Y g xs := k.row g xs h
theorem Keeps.below {X Y : World} (h : Below X.heap.size X Y) : Keeps X Y := ⟨fun g xs hr => by
  have hl := hr.lt
  obtain ⟨fr, hr⟩ := hr.at'
  exact ⟨⟨fr, (h.block g hl).trans hr⟩⟩⟩
theorem Row.cell {W : World} {g : Nat} {xs : List Int} (h : Row W g xs) (j : Nat) (hj : j < xs.length) : W.cell? ⟨g, j, none⟩ = some (.int .u8 (xs.getD j 0)) := by
  obtain ⟨fr, h⟩ := h.at'
  simp [World.cell?, h, nb, hj, List.getD_eq_getElem?_getD]
theorem Row.rd {W : World} {g : Nat} {xs : List Int} (h : Row W g xs) (hb : (xs.all fun x => decide (0 ≤ x) && decide (x < 256)) = true) (hl : xs.length ≤ 140737488351232) : RdB W (some ⟨g, 0, none⟩) xs :=
  ⟨hl, Bs_dec xs hb, fun _ => ⟨_, 0, rfl, fun j hj => by rw [Nat.zero_add]; exact h.cell j hj⟩⟩
/-- the mark that a conversion to its own type lays -/
theorem conv_row {W : World} {g n c : Nat} {xs : List Int} (h : Row W g xs) {B : Nat} {w0 : World} (hB : Below B w0 W) (hg : B ≤ g) :
    ∃ Y, (convert 23 23 (.slice (some ⟨g, 0, none⟩) n c)).run Tryd.prog W = .ok (.slice (some ⟨g, 0, none⟩) n c) Y ∧ Below B w0 Y ∧ Keeps W Y := by
  obtain ⟨fr, h⟩ := h.at'
  have hsh : W.shape? g = some (5, (nb xs).toArray.size) := by unfold World.shape?; rw [h]
  refine ⟨W.freeze ⟨g, (nb xs).toArray.size, none⟩ 1, ?_, ?_, ⟨fun g' ys hr => ?_⟩⟩
  · simp [convert, run_underlying Tryd.underlying23, run_underlying Tryd.underlying5, markStringish, hsh]
  · unfold World.freeze
    rw [if_neg (by decide)]
    refine hB.trans ⟨rfl, rfl, rfl, by simp, fun k hk => ?_⟩
    show (W.heap.modify g _)[k]? = _
    rw [Array.getElem?_modify, if_neg (by omega)]
  · obtain ⟨fr', hr⟩ := hr.at'
    unfold World.freeze
    rw [if_neg (by decide)]
    refine ⟨?_⟩
    show ∃ fr, (W.heap.modify g _)[g']? = _
    rw [Array.getElem?_modify, hr]
    by_cases e : g = g'
    · rw [if_pos e]
      obtain ⟨lo, hi⟩ := fr'
      exact ⟨_, rfl⟩
    · rw [if_neg e]
      exact ⟨fr', rfl⟩
theorem str_row {W : World} {g c n : Nat} (xs : List Int) (s : ByteArray) (h : Row W g xs) (hn : n = xs.length) (hs : s = strOfNums xs) :
    (convert 23 9 (.slice (some ⟨g, 0, none⟩) n c)).run Tryd.prog W = .ok (.string s) W := by
  subst hn hs
  exact run_convert_bytes_arg (P := Tryd.prog) W 23 5 Tryd.underlying23 Tryd.underlying5 g 0 xs.length c xs rfl (fun i hi => by rw [Nat.zero_add]; exact h.cell i hi) 9 Tryd.underlying9
theorem cs1 (W : World) (g : Nat) (h : Row W g [49, 50, 51, 52, 53]) : Calls Tryd.prog 9 #[.slice (some ⟨g, 0, none⟩) 5 5] W fun e w' => e = .returned (.int .u32 (sum [49, 50, 51, 52, 53] : Nat)) ∧ Below W.heap.size W w' :=
  sum_any _ [49, 50, 51, 52, 53] 5 _ (h.rd (by decide) (by decide))
theorem cu1 (W : World) (N : Nat) (hN : N = sum [49, 50, 51, 52, 53]) (g : Nat) (h : Row W g [54, 55, 56, 57]) : Calls Tryd.prog 11 #[.int .u32 (N : Int), .slice (some ⟨g, 0, none⟩) 4 4] W fun e w' => (∃ N : Nat, e = .returned (.int .u32 (N : Int)) ∧ N < 4294967296 ∧ text N = ⟨#[101, 51, 48, 54, 57, 50, 56, 51]⟩) ∧ Below W.heap.size W w' :=
  (update_any N (hN ▸ update_lt 0 _) _ [54, 55, 56, 57] 4 _ (h.rd (by decide) (by decide))).mono fun _ _ ⟨he, hB⟩ => ⟨⟨update N [54, 55, 56, 57], he, update_lt _ _, hN ▸ kt4⟩, hB⟩
theorem Own.str {W : World} {B : Nat} {v : Value} {xs : List Int} (h : Own W B v xs) (hb : (xs.all fun x => decide (0 ≤ x) && decide (x < 256)) = true) (hl : xs.length ≤ 140737488351232) :
    (convert 23 9 v).run Tryd.prog W = .ok (.string (strOfNums xs)) W := by
  obtain ⟨A, c, rfl, hr, hn⟩ := h.reads (Bs_dec xs hb) hl
  exact hr.string hn
theorem ca1 (W : World) (g : Nat) (h : Row W g [97]) : Calls Tryd.prog 13 #[.slice (some ⟨g, 0, none⟩) 1 1] W fun e w' => (∃ v, e = .returned v ∧ (convert 23 9 v).run Tryd.prog w' = .ok (.string ⟨#[97, 193, 208, 67, 48]⟩) w') ∧ Below W.heap.size W w' :=
  (append_any _ [97] 1 _ (h.rd (by decide) (by decide)) (fun h => by cases h)).mono fun _ _ ⟨v, he, ho, hB⟩ => ⟨⟨v, he, by rw [kt5] at ho; exact ho.str (by decide) (by decide)⟩, hB⟩
theorem co1 (W : World) (g g2 : Nat) (h : Row W g [97, 193, 208, 67, 48]) (h2 : Row W g2 [97]) : Calls Tryd.prog 15 #[.slice (some ⟨g, 0, none⟩) 5 5, .slice (some ⟨g2, 0, none⟩) 1 1, .int .i64 0] W fun e w' => e = .returned (.bool true) ∧ Below W.heap.size W w' :=
  (opens_any _ _ [97, 193, 208, 67, 48] [97] 5 1 0 _ (h.rd (by decide) (by decide)) (h2.rd (by decide) (by decide)) (fun h => by cases h) (Nat.le_refl _)).mono fun _ _ ⟨he, hB⟩ => ⟨by rw [he, ko1], hB⟩
theorem ks0 (W : World) : Calls Tryd.prog 9 #[.slice none 0 0] W fun e w' => (∃ N : Nat, e = .returned (.int .u32 (N : Int)) ∧ N < 4294967296 ∧ text N = ⟨#[48, 48, 48, 48, 48, 48, 48, 48]⟩) ∧ Below W.heap.size W w' :=
  (sum_any none [] 0 W (RdB_nil _ _)).mono fun _ _ ⟨he, hB⟩ => ⟨⟨sum [], he, update_lt 0 [], kt0⟩, hB⟩
theorem ks1 (W : World) : Calls Tryd.prog 9 #[.slice (some ⟨W.heap.size, 0, none⟩) 1 1] (W.alloc (.cells #[.int .u8 97] 5 (1, 2))) fun e w' => (∃ N : Nat, e = .returned (.int .u32 (N : Int)) ∧ N < 4294967296 ∧ text N = ⟨#[99, 49, 100, 48, 52, 51, 51, 48]⟩) ∧ Below W.heap.size W w' :=
  (sum_any _ [97] 1 _ (RdB_mark W [97] _ (by decide) (by decide))).mono fun _ _ ⟨he, hB⟩ => ⟨⟨sum [97], he, update_lt 0 [97], kt1⟩, ((Below.refl _ _).alloc (Nat.le_refl _) _).trans (hB.mono ((Below.refl _ _).alloc (Nat.le_refl _) _).size)⟩
theorem ks3 (W : World) : Calls Tryd.prog 9 #[.slice (some ⟨W.heap.size, 0, none⟩) 3 3] (W.alloc (.cells #[.int .u8 97, .int .u8 98, .int .u8 99] 5 (3, 4))) fun e w' => (∃ N : Nat, e = .returned (.int .u32 (N : Int)) ∧ N < 4294967296 ∧ text N = ⟨#[51, 54, 52, 98, 51, 102, 98, 55]⟩) ∧ Below W.heap.size W w' :=
  (sum_any _ [97, 98, 99] 3 _ (RdB_mark W [97, 98, 99] _ (by decide) (by decide))).mono fun _ _ ⟨he, hB⟩ => ⟨⟨sum [97, 98, 99], he, update_lt 0 [97, 98, 99], kt2⟩, ((Below.refl _ _).alloc (Nat.le_refl _) _).trans (hB.mono ((Below.refl _ _).alloc (Nat.le_refl _) _).size)⟩
theorem ks9 (W : World) : Calls Tryd.prog 9 #[.slice (some ⟨W.heap.size, 0, none⟩) 9 9] (W.alloc (.cells #[.int .u8 49, .int .u8 50, .int .u8 51, .int .u8 52, .int .u8 53, .int .u8 54, .int .u8 55, .int .u8 56, .int .u8 57] 5 (9, 10))) fun e w' => (∃ N : Nat, e = .returned (.int .u32 (N : Int)) ∧ N < 4294967296 ∧ text N = ⟨#[101, 51, 48, 54, 57, 50, 56, 51]⟩) ∧ Below W.heap.size W w' :=
  (sum_any _ [49, 50, 51, 52, 53, 54, 55, 56, 57] 9 _ (RdB_mark W [49, 50, 51, 52, 53, 54, 55, 56, 57] _ (by decide) (by decide))).mono fun _ _ ⟨he, hB⟩ => ⟨⟨sum [49, 50, 51, 52, 53, 54, 55, 56, 57], he, update_lt 0 [49, 50, 51, 52, 53, 54, 55, 56, 57], kt3⟩, ((Below.refl _ _).alloc (Nat.le_refl _) _).trans (hB.mono ((Below.refl _ _).alloc (Nat.le_refl _) _).size)⟩
theorem ko_nil (W : World) : Calls Tryd.prog 15 #[.slice none 0 0, .slice none 0 0, .int .i64 4] W fun e w' => e = .returned (.bool true) ∧ Below W.heap.size W w' :=
  (opens_any none none [] [] 0 0 4 W (RdB_nil _ _) (RdB_nil _ _) (fun _ => rfl) (Nat.le_refl _)).mono fun _ _ ⟨he, hB⟩ => ⟨by rw [he, ko2], hB⟩
theorem ko_z (W : World) : Calls Tryd.prog 15 #[.slice (some ⟨W.heap.size, 0, none⟩) 4 4, .slice none 0 0, .int .i64 0] (W.alloc (.cells #[.int .u8 0, .int .u8 0, .int .u8 0, .int .u8 0] 5)) fun e w' => e = .returned (.bool true) ∧ Below W.heap.size W w' :=
  (opens_any _ none [0, 0, 0, 0] [] 4 0 0 _ (RdB_lit W [0, 0, 0, 0] (by decide) (by decide)) (RdB_nil _ _) (fun _ => rfl) (Nat.le_refl _)).mono fun _ _ ⟨he, hB⟩ => ⟨by rw [he, ko3], ((Below.refl _ _).alloc (Nat.le_refl _) _).trans (hB.mono ((Below.refl _ _).alloc (Nat.le_refl _) _).size)⟩
theorem ko_o (W : World) : Calls Tryd.prog 15 #[.slice (some ⟨W.heap.size, 0, none⟩) 4 4, .slice none 0 0, .int .i64 10] (W.alloc (.cells #[.int .u8 0, .int .u8 0, .int .u8 0, .int .u8 1] 5)) fun e w' => e = .returned (.bool true) ∧ Below W.heap.size W w' :=
  (opens_any _ none [0, 0, 0, 1] [] 4 0 10 _ (RdB_lit W [0, 0, 0, 1] (by decide) (by decide)) (RdB_nil _ _) (fun _ => rfl) (Nat.le_refl _)).mono fun _ _ ⟨he, hB⟩ => ⟨by rw [he, ko4], ((Below.refl _ _).alloc (Nat.le_refl _) _).trans (hB.mono ((Below.refl _ _).alloc (Nat.le_refl _) _).size)⟩
theorem ko_c (W : World) : Calls Tryd.prog 15 #[.slice (some ⟨W.heap.size, 0, none⟩) 5 5, .slice none 0 0, .int .i64 10] (W.alloc (.cells #[.int .u8 97, .int .u8 193, .int .u8 208, .int .u8 67, .int .u8 49] 5)) fun e w' => e = .returned (.bool true) ∧ Below W.heap.size W w' :=
  (opens_any _ none [97, 193, 208, 67, 49] [] 5 0 10 _ (RdB_lit W [97, 193, 208, 67, 49] (by decide) (by decide)) (RdB_nil _ _) (fun _ => rfl) (Nat.le_refl _)).mono fun _ _ ⟨he, hB⟩ => ⟨by rw [he, ko5], ((Below.refl _ _).alloc (Nat.le_refl _) _).trans (hB.mono ((Below.refl _ _).alloc (Nat.le_refl _) _).size)⟩
theorem kp_l (W : World) (hv : Vars W) : Calls Tryd.prog 20 #[.string ⟨#[99, 49, 100, 48, 52, 51, 51, 48]⟩, .int .u32 3251651376, .int .i64 0] W fun e w' => e = .returned (.bool true) ∧ Below W.heap.size W w' :=
  (parses_any _ (by decide) _ _ W hv).mono fun _ _ ⟨he, hB⟩ => ⟨by rw [he, kp1], hB⟩
theorem kp_u (W : World) (hv : Vars W) : Calls Tryd.prog 20 #[.string ⟨#[67, 49, 68, 48, 52, 51, 51, 48]⟩, .int .u32 0, .int .i64 6] W fun e w' => e = .returned (.bool true) ∧ Below W.heap.size W w' :=
  (parses_any _ (by decide) _ _ W hv).mono fun _ _ ⟨he, hB⟩ => ⟨by rw [he, kp2], hB⟩

theorem bal {w W : World} {o : Obj} (h : Below w.heap.size w W) : Below w.heap.size w (W.alloc o) := h.alloc h.size o
theorem upon_ok {P : Program} {o : Oper} {a : Act} {K : Act → World → Prop} {Q : Exit → Act → World → Prop} {R : Result Value} {v : Value} {W : World} (hr : R = .ok v W) (h : Oper.upon P o a K Q (.ok (.value v) W)) :
    Oper.upon P o a K Q (R.andThen fun a w' => Result.ok (Next.value a) w') := by
  subst hr
  exact h
set_option maxRecDepth 100000 in
theorem upon5 {o : Oper} {a : Act} {K : Act → World → Prop} {Q : Exit → Act → World → Prop} {W w0 : World} {g : Nat} (hrow : Row W g [49, 50, 51, 52, 53]) (hB : Below w0.heap.size w0 W) (hg : w0.heap.size ≤ g)
    (h : ∀ Y, Below w0.heap.size w0 Y → Keeps W Y → Oper.upon Tryd.prog o a K Q (Result.ok (Next.value (.slice (some ⟨g, 0, none⟩) 5 5)) Y)) :
    Oper.upon Tryd.prog o a K Q ((Sem.run Tryd.prog (convert 23 23 (.slice (some ⟨g, 0, none⟩) 5 5)) W).andThen fun a w' => Result.ok (Next.value a) w') := by
  obtain ⟨Y, hr, h1, h2⟩ := conv_row (n := 5) (c := 5) hrow hB hg
  exact upon_ok hr (h Y h1 h2)
set_option maxRecDepth 100000 in
theorem upon4 {o : Oper} {a : Act} {K : Act → World → Prop} {Q : Exit → Act → World → Prop} {W w0 : World} {g : Nat} (hrow : Row W g [54, 55, 56, 57]) (hB : Below w0.heap.size w0 W) (hg : w0.heap.size ≤ g)
    (h : ∀ Y, Below w0.heap.size w0 Y → Keeps W Y → Oper.upon Tryd.prog o a K Q (Result.ok (Next.value (.slice (some ⟨g, 0, none⟩) 4 4)) Y)) :
    Oper.upon Tryd.prog o a K Q ((Sem.run Tryd.prog (convert 23 23 (.slice (some ⟨g, 0, none⟩) 4 4)) W).andThen fun a w' => Result.ok (Next.value a) w') := by
  obtain ⟨Y, hr, h1, h2⟩ := conv_row (n := 4) (c := 4) hrow hB hg
  exact upon_ok hr (h Y h1 h2)
set_option maxRecDepth 100000 in
theorem upon1 {o : Oper} {a : Act} {K : Act → World → Prop} {Q : Exit → Act → World → Prop} {W w0 : World} {g : Nat} (hrow : Row W g [97]) (hB : Below w0.heap.size w0 W) (hg : w0.heap.size ≤ g)
    (h : ∀ Y, Below w0.heap.size w0 Y → Keeps W Y → Oper.upon Tryd.prog o a K Q (Result.ok (Next.value (.slice (some ⟨g, 0, none⟩) 1 1)) Y)) :
    Oper.upon Tryd.prog o a K Q ((Sem.run Tryd.prog (convert 23 23 (.slice (some ⟨g, 0, none⟩) 1 1)) W).andThen fun a w' => Result.ok (Next.value a) w') := by
  obtain ⟨Y, hr, h1, h2⟩ := conv_row (n := 1) (c := 1) hrow hB hg
  exact upon_ok hr (h Y h1 h2)
set_option maxRecDepth 100000 in
theorem uponS {o : Oper} {a : Act} {K : Act → World → Prop} {Q : Exit → Act → World → Prop} {W : World} {g : Nat} (hrow : Row W g [97, 193, 208, 67, 48])
    (h : Oper.upon Tryd.prog o a K Q (Result.ok (Next.value (.string ⟨#[97, 193, 208, 67, 48]⟩)) W)) :
    Oper.upon Tryd.prog o a K Q ((Sem.run Tryd.prog (convert 23 9 (.slice (some ⟨g, 0, none⟩) 5 5)) W).andThen fun a w' => Result.ok (Next.value a) w') := by
  exact upon_ok (str_row (n := 5) (c := 5) [97, 193, 208, 67, 48] ⟨#[97, 193, 208, 67, 48]⟩ hrow rfl (by decide)) h

set_option maxHeartbeats 8000000 in
set_option maxRecDepth 100000 in
theorem known_any (w : World) (hv : Vars w) :
    Calls Tryd.prog 8 #[] w fun r w' => r = .returned (.bool true) ∧ Below w.heap.size w w' := by
  have HV := Lib.hid hv
  have HB : Hid (Below w.heap.size w w) := Lib.hid (Below.refl w.heap.size w)
  clear hv
  have kc := fun (w : World) (C : Array Value) (n c : Nat) => Lib.run_convert_bytes_const (P := Tryd.prog) w 23 5 C n c Tryd.underlying23 Tryd.underlying5
  go_enter Tryd.func8, Tryd.ntmps8
  go_wp2_with (first
    | (go_at_call 9; with_reducible refine (ks0 _).mono ?_; rintro e w1 ⟨⟨N, rfl, hN, hT⟩, hB⟩; have HB : Hid (Below w.heap.size w w1) := Lib.hid (HB.out.trans (hB.mono HB.out.size)); clear hB)
    | (go_at_call 9; with_reducible refine (ks1 _).mono ?_; rintro e w1 ⟨⟨N, rfl, hN, hT⟩, hB⟩; have HB : Hid (Below w.heap.size w w1) := Lib.hid (HB.out.trans (hB.mono HB.out.size)); clear hB)
    | (go_at_call 9; with_reducible refine (ks3 _).mono ?_; rintro e w1 ⟨⟨N, rfl, hN, hT⟩, hB⟩; have HB : Hid (Below w.heap.size w w1) := Lib.hid (HB.out.trans (hB.mono HB.out.size)); clear hB)
    | (go_at_call 9; with_reducible refine (ks9 _).mono ?_; rintro e w1 ⟨⟨N, rfl, hN, hT⟩, hB⟩; have HB : Hid (Below w.heap.size w w1) := Lib.hid (HB.out.trans (hB.mono HB.out.size)); clear hB)
    | (go_at_call 17; with_reducible refine (text_any _ hN _ (HV.out.below HB.out (Nat.le_refl _)).bruijn).mono ?_; rintro e w1 ⟨he, hB⟩; rw [hT] at he; subst he; have HB : Hid (Below w.heap.size w w1) := Lib.hid (HB.out.trans (hB.mono HB.out.size)); clear hB))
  have RA : Row (w1.alloc (.cells #[.int .u8 97, .int .u8 193, .int .u8 208, .int .u8 67, .int .u8 48] 5)) w1.heap.size [97, 193, 208, 67, 48] := Row.new _ _ _ _ _ rfl rfl
  have hB0 := HB.out.alloc HB.out.size (.cells #[.int .u8 97, .int .u8 193, .int .u8 208, .int .u8 67, .int .u8 48] 5)
  have hgA : w.heap.size ≤ w1.heap.size := HB.out.size
  clear HB kc hT hN
  generalize w1.alloc (.cells #[.int .u8 97, .int .u8 193, .int .u8 208, .int .u8 67, .int .u8 48] 5) = W0 at *
  generalize w1.heap.size = gA at *
  have HB := Lib.hid hB0
  have hsz : w.heap.size ≤ W0.heap.size := hB0.size
  clear hB0
  refine wp_region_noPanic ?_
  refine wp_region_held_drew (S := (fun W' => (convert 23 9 (.slice (some ⟨gA, 0, none⟩) 5 5)).run Tryd.prog W' = .ok (.string ⟨#[97, 193, 208, 67, 48]⟩) W' ∧ Row W' gA [97, 193, 208, 67, 48])) (by kernel_rfl) ?_ (fun hHeld0 => ?_)
  · (try dsimp only); exact ⟨str_row [97, 193, 208, 67, 48] _ (by (focus (repeat (first | exact Row.new _ _ _ _ _ (by first | rfl | simp) rfl | refine Row.old ?_ | refine Row.drew ?_ | assumption | refine Row.keep (by assumption) ?_)))) rfl (by decide), by (focus (repeat (first | exact Row.new _ _ _ _ _ (by first | rfl | simp) rfl | refine Row.old ?_ | refine Row.drew ?_ | assumption | refine Row.keep (by assumption) ?_)))⟩
  refine wpAnyH_ready (rs := [0, 3]) (by kernel_rfl) (by simp) ?_
  refine (AllReadyH.cons rfl (fun Kx hKx => ?_) (AllReadyH.cons rfl (fun Kx hKx => ?_) AllReadyH.nil))
  · go_simp
    refine hKx.out _ _ ?_ (fun hHeld1 => ?_)
    · (try dsimp only); exact ⟨str_row [97, 193, 208, 67, 48] _ (by (focus (repeat (first | exact Row.new _ _ _ _ _ (by first | rfl | simp) rfl | refine Row.old ?_ | refine Row.drew ?_ | assumption | refine Row.keep (by assumption) ?_)))) rfl (by decide), by (focus (repeat (first | exact Row.new _ _ _ _ _ (by first | rfl | simp) rfl | refine Row.old ?_ | refine Row.drew ?_ | assumption | refine Row.keep (by assumption) ?_)))⟩
    clear hHeld0 hKx Kx
    try simp only [Act.put, List.getElem_toArray, List.getElem_cons_zero, List.getElem_cons_succ, List.setIfInBounds_toArray, List.set_cons_zero, List.set_cons_succ]
    refine wpAnyH_ready (rs := [1, 3]) (by kernel_rfl) (by simp) ?_
    refine (AllReadyH.cons rfl (fun Kx hKx => ?_) (AllReadyH.cons rfl (fun Kx hKx => ?_) AllReadyH.nil))
    · go_simp
      with_reducible refine (upon5 (w0 := w) ?_ ?_ ?_ ?_)
      (focus (repeat (first | exact Row.new _ _ _ _ _ (by first | rfl | simp) rfl | refine Row.old ?_ | refine Row.drew ?_ | assumption | refine Row.keep (by assumption) ?_)))
      (focus (repeat (first | exact HB.out | refine bal ?_ | refine Below.drew ?_)))
      (focus (first | omega | (simp; omega)))
      intro Y hB hK
      have HB : Hid (Below w.heap.size w Y) := Lib.hid hB
      have hsz : w.heap.size ≤ Y.heap.size := hB.size
      clear hB
      go_wp2_with fail
      refine hKx.out _ _ ?_ (fun hHeld2 => ?_)
      · (try dsimp only); exact ⟨str_row [97, 193, 208, 67, 48] _ (by (focus (repeat (first | exact Row.new _ _ _ _ _ (by first | rfl | simp) rfl | refine Row.old ?_ | refine Row.drew ?_ | assumption | refine Row.keep (by assumption) ?_)))) rfl (by decide), by (focus (repeat (first | exact Row.new _ _ _ _ _ (by first | rfl | simp) rfl | refine Row.old ?_ | refine Row.drew ?_ | assumption | refine Row.keep (by assumption) ?_)))⟩
      clear hHeld1 hKx Kx
      try simp only [Act.put, List.getElem_toArray, List.getElem_cons_zero, List.getElem_cons_succ, List.setIfInBounds_toArray, List.set_cons_zero, List.set_cons_succ]
      refine wpAnyH_ready (rs := [2, 3]) (by kernel_rfl) (by simp) ?_
      refine (AllReadyH.cons rfl (fun Kx hKx => ?_) (AllReadyH.cons rfl (fun Kx hKx => ?_) AllReadyH.nil))
      · go_simp
        go_at_call 9
        refine (cs1 _ _ ?_).mono ?_
        (focus (repeat (first | exact Row.new _ _ _ _ _ (by first | rfl | simp) rfl | refine Row.old ?_ | refine Row.drew ?_ | assumption | refine Row.keep (by assumption) ?_)))
        rintro e w1 ⟨he, hB⟩
        obtain ⟨M, hM⟩ : ∃ M, M = sum [49, 50, 51, 52, 53] := ⟨_, rfl⟩
        rw [← hM] at he
        subst he
        have HM := Lib.hid hM
        clear hM
        have hB0 : Below w.heap.size w w1 := Below.trans (by (focus (repeat (first | exact HB.out | refine bal ?_ | refine Below.drew ?_)))) (hB.mono (Below.size (by (focus (repeat (first | exact HB.out | refine bal ?_ | refine Below.drew ?_))))))
        have hK1 := Keeps.below hB
        have HB : Hid (Below w.heap.size w w1) := Lib.hid hB0
        have hsz : w.heap.size ≤ w1.heap.size := hB0.size
        clear hB hB0
        go_wp2_with fail
        refine hKx.out _ _ ?_ (fun hHeld3 => ?_)
        · (try dsimp only); exact ⟨str_row [97, 193, 208, 67, 48] _ (by (focus (repeat (first | exact Row.new _ _ _ _ _ (by first | rfl | simp) rfl | refine Row.old ?_ | refine Row.drew ?_ | assumption | refine Row.keep (by assumption) ?_)))) rfl (by decide), by (focus (repeat (first | exact Row.new _ _ _ _ _ (by first | rfl | simp) rfl | refine Row.old ?_ | refine Row.drew ?_ | assumption | refine Row.keep (by assumption) ?_)))⟩
        clear hHeld2 hKx Kx
        try simp only [Act.put, List.getElem_toArray, List.getElem_cons_zero, List.getElem_cons_succ, List.setIfInBounds_toArray, List.set_cons_zero, List.set_cons_succ]
        refine wpAnyH_ready (rs := [3]) (by kernel_rfl) (by simp) ?_
        refine (AllReadyH.cons rfl (fun Kx hKx => ?_) AllReadyH.nil)
        go_simp
        refine hKx.out _ _ ?_ (fun hHeld4 => ?_)
        · (try dsimp only); exact ⟨str_row [97, 193, 208, 67, 48] _ (by (focus (repeat (first | exact Row.new _ _ _ _ _ (by first | rfl | simp) rfl | refine Row.old ?_ | refine Row.drew ?_ | assumption | refine Row.keep (by assumption) ?_)))) rfl (by decide), by (focus (repeat (first | exact Row.new _ _ _ _ _ (by first | rfl | simp) rfl | refine Row.old ?_ | refine Row.drew ?_ | assumption | refine Row.keep (by assumption) ?_)))⟩
        clear hHeld3 hKx Kx
        try simp only [Act.put, List.getElem_toArray, List.getElem_cons_zero, List.getElem_cons_succ, List.setIfInBounds_toArray, List.set_cons_zero, List.set_cons_succ]
        refine wpAnyH_ready (rs := [4]) (by kernel_rfl) (by simp) ?_
        refine (AllReadyH.cons rfl (fun Kx hKx => ?_) AllReadyH.nil)
        go_simp
        with_reducible refine (upon4 (w0 := w) ?_ ?_ ?_ ?_)
        (focus (repeat (first | exact Row.new _ _ _ _ _ (by first | rfl | simp) rfl | refine Row.old ?_ | refine Row.drew ?_ | assumption | refine Row.keep (by assumption) ?_)))
        (focus (repeat (first | exact HB.out | refine bal ?_ | refine Below.drew ?_)))
        (focus (first | omega | (simp; omega)))
        intro Y hB hK
        have HB : Hid (Below w.heap.size w Y) := Lib.hid hB
        have hsz : w.heap.size ≤ Y.heap.size := hB.size
        clear hB
        go_wp2_with fail
        refine hKx.out _ _ ?_ (fun hHeld5 => ?_)
        · (try dsimp only); exact ⟨str_row [97, 193, 208, 67, 48] _ (by (focus (repeat (first | exact Row.new _ _ _ _ _ (by first | rfl | simp) rfl | refine Row.old ?_ | refine Row.drew ?_ | assumption | refine Row.keep (by assumption) ?_)))) rfl (by decide), by (focus (repeat (first | exact Row.new _ _ _ _ _ (by first | rfl | simp) rfl | refine Row.old ?_ | refine Row.drew ?_ | assumption | refine Row.keep (by assumption) ?_)))⟩
        clear hHeld4 hKx Kx
        try simp only [Act.put, List.getElem_toArray, List.getElem_cons_zero, List.getElem_cons_succ, List.setIfInBounds_toArray, List.set_cons_zero, List.set_cons_succ]
        refine wpAnyH_ready (rs := [5]) (by kernel_rfl) (by simp) ?_
        refine (AllReadyH.cons rfl (fun Kx hKx => ?_) AllReadyH.nil)
        go_simp
        go_at_call 11
        refine (cu1 _ M HM.out _ ?_).mono ?_
        (focus (repeat (first | exact Row.new _ _ _ _ _ (by first | rfl | simp) rfl | refine Row.old ?_ | refine Row.drew ?_ | assumption | refine Row.keep (by assumption) ?_)))
        rintro e w1 ⟨⟨N, rfl, hN, hT⟩, hB⟩
        have hB0 : Below w.heap.size w w1 := Below.trans (by (focus (repeat (first | exact HB.out | refine bal ?_ | refine Below.drew ?_)))) (hB.mono (Below.size (by (focus (repeat (first | exact HB.out | refine bal ?_ | refine Below.drew ?_))))))
        have hK1 := Keeps.below hB
        have HB : Hid (Below w.heap.size w w1) := Lib.hid hB0
        have hsz : w.heap.size ≤ w1.heap.size := hB0.size
        clear hB hB0
        go_wp2_with fail
        refine hKx.out _ _ ?_ (fun hHeld6 => ?_)
        · (try dsimp only); exact ⟨str_row [97, 193, 208, 67, 48] _ (by (focus (repeat (first | exact Row.new _ _ _ _ _ (by first | rfl | simp) rfl | refine Row.old ?_ | refine Row.drew ?_ | assumption | refine Row.keep (by assumption) ?_)))) rfl (by decide), by (focus (repeat (first | exact Row.new _ _ _ _ _ (by first | rfl | simp) rfl | refine Row.old ?_ | refine Row.drew ?_ | assumption | refine Row.keep (by assumption) ?_)))⟩
        clear hHeld5 hKx Kx
        try simp only [Act.put, List.getElem_toArray, List.getElem_cons_zero, List.getElem_cons_succ, List.setIfInBounds_toArray, List.set_cons_zero, List.set_cons_succ]
        refine wpAnyH_ready (rs := [6]) (by kernel_rfl) (by simp) ?_
        refine (AllReadyH.cons rfl (fun Kx hKx => ?_) AllReadyH.nil)
        go_simp
        go_at_call 17
        with_reducible refine (text_any _ hN _ (HV.out.below HB.out (Nat.le_refl _)).bruijn).mono ?_
        rintro e w1 ⟨he, hB⟩
        rw [hT] at he
        subst he
        have hB0 : Below w.heap.size w w1 := Below.trans (by (focus (repeat (first | exact HB.out | refine bal ?_ | refine Below.drew ?_)))) (hB.mono (Below.size (by (focus (repeat (first | exact HB.out | refine bal ?_ | refine Below.drew ?_))))))
        have hK1 := Keeps.below hB
        have HB : Hid (Below w.heap.size w w1) := Lib.hid hB0
        have hsz : w.heap.size ≤ w1.heap.size := hB0.size
        clear hB hB0
        go_wp2_with fail
        refine hKx.out _ _ ?_ (fun hHeld7 => ?_)
        · (try dsimp only); exact ⟨str_row [97, 193, 208, 67, 48] _ (by (focus (repeat (first | exact Row.new _ _ _ _ _ (by first | rfl | simp) rfl | refine Row.old ?_ | refine Row.drew ?_ | assumption | refine Row.keep (by assumption) ?_)))) rfl (by decide), by (focus (repeat (first | exact Row.new _ _ _ _ _ (by first | rfl | simp) rfl | refine Row.old ?_ | refine Row.drew ?_ | assumption | refine Row.keep (by assumption) ?_)))⟩
        clear hHeld6 hKx Kx
        try simp only [Act.put, List.getElem_toArray, List.getElem_cons_zero, List.getElem_cons_succ, List.setIfInBounds_toArray, List.set_cons_zero, List.set_cons_succ]
        refine wpAnyH_take (i := 7) (v := ?_) rfl (by kernel_rfl) (by kernel_rfl) (by kernel_rfl) (fun _ _ _ h => h) (Or.inl ⟨by rfl, ?_⟩) (by assumption) ?_
        rotate_left
        · intro w hSw; (try dsimp only at hSw); go_simp; with_reducible rfl
        try simp only [Act.put, List.getElem_toArray, List.getElem_cons_zero, List.getElem_cons_succ, List.setIfInBounds_toArray, List.set_cons_zero, List.set_cons_succ]
        refine wpAnyH_take (i := 8) (v := ?_) rfl (by kernel_rfl) (by kernel_rfl) (by kernel_rfl) (fun _ _ _ h => h) (Or.inl ⟨by rfl, ?_⟩) (by assumption) ?_
        rotate_left
        · intro w hSw; (try dsimp only at hSw); go_simp; with_reducible rfl
        try simp only [Act.put, List.getElem_toArray, List.getElem_cons_zero, List.getElem_cons_succ, List.setIfInBounds_toArray, List.set_cons_zero, List.set_cons_succ]
        refine wpAnyH_take (i := 13) (v := ?_) rfl (by kernel_rfl) (by kernel_rfl) (by kernel_rfl) (fun _ _ _ h => h) (Or.inl ⟨by rfl, ?_⟩) (by assumption) ?_
        rotate_left
        · intro w hSw; (try dsimp only at hSw); go_simp; with_reducible rfl
        try simp only [Act.put, List.getElem_toArray, List.getElem_cons_zero, List.getElem_cons_succ, List.setIfInBounds_toArray, List.set_cons_zero, List.set_cons_succ]
        refine wpAnyH_take (i := 14) (v := ?_) rfl (by kernel_rfl) (by kernel_rfl) (by kernel_rfl) (fun _ _ _ h => h) (Or.inl ⟨by rfl, ?_⟩) (by assumption) ?_
        rotate_left
        · intro w hSw; (try dsimp only at hSw); go_simp; with_reducible rfl
        try simp only [Act.put, List.getElem_toArray, List.getElem_cons_zero, List.getElem_cons_succ, List.setIfInBounds_toArray, List.set_cons_zero, List.set_cons_succ]
        refine wpAnyH_ready (rs := [9]) (by kernel_rfl) (by simp) ?_
        refine (AllReadyH.cons rfl (fun Kx hKx => ?_) AllReadyH.nil)
        go_simp
        refine hKx.out _ _ ?_ (fun hHeld8 => ?_)
        · (try dsimp only); exact ⟨str_row [97, 193, 208, 67, 48] _ (by (focus (repeat (first | exact Row.new _ _ _ _ _ (by first | rfl | simp) rfl | refine Row.old ?_ | refine Row.drew ?_ | assumption | refine Row.keep (by assumption) ?_)))) rfl (by decide), by (focus (repeat (first | exact Row.new _ _ _ _ _ (by first | rfl | simp) rfl | refine Row.old ?_ | refine Row.drew ?_ | assumption | refine Row.keep (by assumption) ?_)))⟩
        clear hHeld7 hKx Kx
        try simp only [Act.put, List.getElem_toArray, List.getElem_cons_zero, List.getElem_cons_succ, List.setIfInBounds_toArray, List.set_cons_zero, List.set_cons_succ]
        refine wpAnyH_ready (rs := [10]) (by kernel_rfl) (by simp) ?_
        refine (AllReadyH.cons rfl (fun Kx hKx => ?_) AllReadyH.nil)
        go_simp
        with_reducible refine (upon1 (w0 := w) ?_ ?_ ?_ ?_)
        (focus (repeat (first | exact Row.new _ _ _ _ _ (by first | rfl | simp) rfl | refine Row.old ?_ | refine Row.drew ?_ | assumption | refine Row.keep (by assumption) ?_)))
        (focus (repeat (first | exact HB.out | refine bal ?_ | refine Below.drew ?_)))
        (focus (first | omega | (simp; omega)))
        intro Y hB hK
        have HB : Hid (Below w.heap.size w Y) := Lib.hid hB
        have hsz : w.heap.size ≤ Y.heap.size := hB.size
        clear hB
        go_wp2_with fail
        refine hKx.out _ _ ?_ (fun hHeld9 => ?_)
        · (try dsimp only); exact ⟨str_row [97, 193, 208, 67, 48] _ (by (focus (repeat (first | exact Row.new _ _ _ _ _ (by first | rfl | simp) rfl | refine Row.old ?_ | refine Row.drew ?_ | assumption | refine Row.keep (by assumption) ?_)))) rfl (by decide), by (focus (repeat (first | exact Row.new _ _ _ _ _ (by first | rfl | simp) rfl | refine Row.old ?_ | refine Row.drew ?_ | assumption | refine Row.keep (by assumption) ?_)))⟩
        clear hHeld8 hKx Kx
        try simp only [Act.put, List.getElem_toArray, List.getElem_cons_zero, List.getElem_cons_succ, List.setIfInBounds_toArray, List.set_cons_zero, List.set_cons_succ]
        refine wpAnyH_ready (rs := [11]) (by kernel_rfl) (by simp) ?_
        refine (AllReadyH.cons rfl (fun Kx hKx => ?_) AllReadyH.nil)
        go_simp
        go_at_call 13
        refine (ca1 _ _ ?_).mono ?_
        (focus (repeat (first | exact Row.new _ _ _ _ _ (by first | rfl | simp) rfl | refine Row.old ?_ | refine Row.drew ?_ | assumption | refine Row.keep (by assumption) ?_)))
        rintro e w1 ⟨⟨v, rfl, hcv⟩, hB⟩
        have hB0 : Below w.heap.size w w1 := Below.trans (by (focus (repeat (first | exact HB.out | refine bal ?_ | refine Below.drew ?_)))) (hB.mono (Below.size (by (focus (repeat (first | exact HB.out | refine bal ?_ | refine Below.drew ?_))))))
        have hK1 := Keeps.below hB
        have HB : Hid (Below w.heap.size w w1) := Lib.hid hB0
        have hsz : w.heap.size ≤ w1.heap.size := hB0.size
        clear hB hB0
        go_wp2_with fail
        refine hKx.out _ _ ?_ (fun hHeld10 => ?_)
        · (try dsimp only); exact ⟨str_row [97, 193, 208, 67, 48] _ (by (focus (repeat (first | exact Row.new _ _ _ _ _ (by first | rfl | simp) rfl | refine Row.old ?_ | refine Row.drew ?_ | assumption | refine Row.keep (by assumption) ?_)))) rfl (by decide), by (focus (repeat (first | exact Row.new _ _ _ _ _ (by first | rfl | simp) rfl | refine Row.old ?_ | refine Row.drew ?_ | assumption | refine Row.keep (by assumption) ?_)))⟩
        clear hHeld9 hKx Kx
        try simp only [Act.put, List.getElem_toArray, List.getElem_cons_zero, List.getElem_cons_succ, List.setIfInBounds_toArray, List.set_cons_zero, List.set_cons_succ]
        refine wpAnyH_ready (rs := [12]) (by kernel_rfl) (by simp) ?_
        refine (AllReadyH.cons rfl (fun Kx hKx => ?_) AllReadyH.nil)
        go_simp
        refine hKx.out _ _ ?_ (fun hHeld11 => ?_)
        · (try dsimp only); exact ⟨str_row [97, 193, 208, 67, 48] _ (by (focus (repeat (first | exact Row.new _ _ _ _ _ (by first | rfl | simp) rfl | refine Row.old ?_ | refine Row.drew ?_ | assumption | refine Row.keep (by assumption) ?_)))) rfl (by decide), by (focus (repeat (first | exact Row.new _ _ _ _ _ (by first | rfl | simp) rfl | refine Row.old ?_ | refine Row.drew ?_ | assumption | refine Row.keep (by assumption) ?_)))⟩
        clear hHeld10 hKx Kx
        try simp only [Act.put, List.getElem_toArray, List.getElem_cons_zero, List.getElem_cons_succ, List.setIfInBounds_toArray, List.set_cons_zero, List.set_cons_succ]
        refine wpAnyH_take (i := 15) (v := ?_) rfl (by kernel_rfl) (by kernel_rfl) (by kernel_rfl) (fun _ _ _ h => h) (Or.inl ⟨by rfl, ?_⟩) (by assumption) ?_
        rotate_left
        · intro w hSw; (try dsimp only at hSw); go_simp; with_reducible rfl
        try simp only [Act.put, List.getElem_toArray, List.getElem_cons_zero, List.getElem_cons_succ, List.setIfInBounds_toArray, List.set_cons_zero, List.set_cons_succ]
        refine wpAnyH_take (i := 16) (v := ?_) rfl (by kernel_rfl) (by kernel_rfl) (by kernel_rfl) (fun _ _ _ h => h) (Or.inl ⟨by rfl, ?_⟩) (by assumption) ?_
        rotate_left
        · intro w hSw; (try dsimp only at hSw); go_simp; with_reducible rfl
        try simp only [Act.put, List.getElem_toArray, List.getElem_cons_zero, List.getElem_cons_succ, List.setIfInBounds_toArray, List.set_cons_zero, List.set_cons_succ]
        refine wpAnyH_take (i := 17) (v := ?_) rfl (by kernel_rfl) (by kernel_rfl) (by kernel_rfl) (fun _ _ _ h => h) (Or.inl ⟨by rfl, ?_⟩) (by assumption) ?_
        rotate_left
        · intro w hSw; (try dsimp only at hSw); go_simp; with_reducible rfl
        try simp only [Act.put, List.getElem_toArray, List.getElem_cons_zero, List.getElem_cons_succ, List.setIfInBounds_toArray, List.set_cons_zero, List.set_cons_succ]
        refine wpAnyH_take (i := 18) (v := ?_) rfl (by kernel_rfl) (by kernel_rfl) (by kernel_rfl) (fun _ _ _ h => h) (Or.inl ⟨by rfl, ?_⟩) (by assumption) ?_
        rotate_left
        · intro w hSw; (try dsimp only at hSw); go_simp; with_reducible rfl
        try simp only [Act.put, List.getElem_toArray, List.getElem_cons_zero, List.getElem_cons_succ, List.setIfInBounds_toArray, List.set_cons_zero, List.set_cons_succ]
        refine wpAnyH_ready (rs := [19]) (by kernel_rfl) (by simp) ?_
        refine (AllReadyH.cons rfl (fun Kx hKx => ?_) AllReadyH.nil)
        go_simp
        refine hKx.out _ _ ?_ (fun hHeld12 => ?_)
        · (try dsimp only); exact ⟨str_row [97, 193, 208, 67, 48] _ (by (focus (repeat (first | exact Row.new _ _ _ _ _ (by first | rfl | simp) rfl | refine Row.old ?_ | refine Row.drew ?_ | assumption | refine Row.keep (by assumption) ?_)))) rfl (by decide), by (focus (repeat (first | exact Row.new _ _ _ _ _ (by first | rfl | simp) rfl | refine Row.old ?_ | refine Row.drew ?_ | assumption | refine Row.keep (by assumption) ?_)))⟩
        clear hHeld11 hKx Kx
        try simp only [Act.put, List.getElem_toArray, List.getElem_cons_zero, List.getElem_cons_succ, List.setIfInBounds_toArray, List.set_cons_zero, List.set_cons_succ]
        refine wpAnyH_ready (rs := [20]) (by kernel_rfl) (by simp) ?_
        refine (AllReadyH.cons rfl (fun Kx hKx => ?_) AllReadyH.nil)
        go_simp
        go_at_call 15
        refine (co1 _ _ _ ?_ ?_).mono ?_
        (focus (repeat (first | exact Row.new _ _ _ _ _ (by first | rfl | simp) rfl | refine Row.old ?_ | refine Row.drew ?_ | assumption | refine Row.keep (by assumption) ?_)))
        (focus (repeat (first | exact Row.new _ _ _ _ _ (by first | rfl | simp) rfl | refine Row.old ?_ | refine Row.drew ?_ | assumption | refine Row.keep (by assumption) ?_)))
        rintro e w1 ⟨rfl, hB⟩
        have hB0 : Below w.heap.size w w1 := Below.trans (by (focus (repeat (first | exact HB.out | refine bal ?_ | refine Below.drew ?_)))) (hB.mono (Below.size (by (focus (repeat (first | exact HB.out | refine bal ?_ | refine Below.drew ?_))))))
        have hK1 := Keeps.below hB
        have HB : Hid (Below w.heap.size w w1) := Lib.hid hB0
        have hsz : w.heap.size ≤ w1.heap.size := hB0.size
        clear hB hB0
        go_wp2_with fail
        refine hKx.out _ _ ?_ (fun hHeld13 => ?_)
        · (try dsimp only); exact ⟨str_row [97, 193, 208, 67, 48] _ (by (focus (repeat (first | exact Row.new _ _ _ _ _ (by first | rfl | simp) rfl | refine Row.old ?_ | refine Row.drew ?_ | assumption | refine Row.keep (by assumption) ?_)))) rfl (by decide), by (focus (repeat (first | exact Row.new _ _ _ _ _ (by first | rfl | simp) rfl | refine Row.old ?_ | refine Row.drew ?_ | assumption | refine Row.keep (by assumption) ?_)))⟩
        clear hHeld12 hKx Kx
        try simp only [Act.put, List.getElem_toArray, List.getElem_cons_zero, List.getElem_cons_succ, List.setIfInBounds_toArray, List.set_cons_zero, List.set_cons_succ]
        refine wpAnyH_take (i := 21) (v := ?_) rfl (by kernel_rfl) (by kernel_rfl) (by kernel_rfl) (fun _ _ _ h => h) (Or.inl ⟨by rfl, ?_⟩) (by assumption) ?_
        rotate_left
        · intro w hSw; (try dsimp only at hSw); go_simp; with_reducible rfl
        try simp only [Act.put, List.getElem_toArray, List.getElem_cons_zero, List.getElem_cons_succ, List.setIfInBounds_toArray, List.set_cons_zero, List.set_cons_succ]
        refine wpAnyH_take (i := 22) (v := ?_) rfl (by kernel_rfl) (by kernel_rfl) (by kernel_rfl) (fun _ _ _ h => h) (Or.inl ⟨by rfl, ?_⟩) (by assumption) ?_
        rotate_left
        · intro w hSw; (try dsimp only at hSw); go_simp; with_reducible rfl
        try simp only [Act.put, List.getElem_toArray, List.getElem_cons_zero, List.getElem_cons_succ, List.setIfInBounds_toArray, List.set_cons_zero, List.set_cons_succ]
        refine wpAnyH_done (by kernel_rfl) ?_ _
        refine NoPanic.normal ?_
        go_wp2_with (first
          | (go_at_call 15; with_reducible refine (ko_nil _).mono ?_; rintro e w1 ⟨rfl, hB⟩; have HB : Hid (Below w.heap.size w w1) := Lib.hid (HB.out.trans (hB.mono HB.out.size)); clear hB)
          | (go_at_call 15; with_reducible refine (ko_z _).mono ?_; rintro e w1 ⟨rfl, hB⟩; have HB : Hid (Below w.heap.size w w1) := Lib.hid (HB.out.trans (hB.mono HB.out.size)); clear hB)
          | (go_at_call 15; with_reducible refine (ko_o _).mono ?_; rintro e w1 ⟨rfl, hB⟩; have HB : Hid (Below w.heap.size w w1) := Lib.hid (HB.out.trans (hB.mono HB.out.size)); clear hB)
          | (go_at_call 15; with_reducible refine (ko_c _).mono ?_; rintro e w1 ⟨rfl, hB⟩; have HB : Hid (Below w.heap.size w w1) := Lib.hid (HB.out.trans (hB.mono HB.out.size)); clear hB)
          | (go_at_call 20; with_reducible refine (kp_l _ (HV.out.below HB.out (Nat.le_refl _))).mono ?_; rintro e w1 ⟨rfl, hB⟩; have HB : Hid (Below w.heap.size w w1) := Lib.hid (HB.out.trans (hB.mono HB.out.size)); clear hB)
          | (go_at_call 20; with_reducible refine (kp_u _ (HV.out.below HB.out (Nat.le_refl _))).mono ?_; rintro e w1 ⟨rfl, hB⟩; have HB : Hid (Below w.heap.size w w1) := Lib.hid (HB.out.trans (hB.mono HB.out.size)); clear hB))
        go_ret
        exact ⟨rfl, HB.out⟩
      · go_simp
        refine hKx.out _ _ ?_ (fun hHeld3 => ?_)
        · (try dsimp only); exact ⟨str_row [97, 193, 208, 67, 48] _ (by (focus (repeat (first | exact Row.new _ _ _ _ _ (by first | rfl | simp) rfl | refine Row.old ?_ | refine Row.drew ?_ | assumption | refine Row.keep (by assumption) ?_)))) rfl (by decide), by (focus (repeat (first | exact Row.new _ _ _ _ _ (by first | rfl | simp) rfl | refine Row.old ?_ | refine Row.drew ?_ | assumption | refine Row.keep (by assumption) ?_)))⟩
        clear hHeld2 hKx Kx
        try simp only [Act.put, List.getElem_toArray, List.getElem_cons_zero, List.getElem_cons_succ, List.setIfInBounds_toArray, List.set_cons_zero, List.set_cons_succ]
        refine wpAnyH_ready (rs := [2, 4]) (by kernel_rfl) (by simp) ?_
        refine (AllReadyH.cons rfl (fun Kx hKx => ?_) (AllReadyH.cons rfl (fun Kx hKx => ?_) AllReadyH.nil))
        · go_simp
          go_at_call 9
          refine (cs1 _ _ ?_).mono ?_
          (focus (repeat (first | exact Row.new _ _ _ _ _ (by first | rfl | simp) rfl | refine Row.old ?_ | refine Row.drew ?_ | assumption | refine Row.keep (by assumption) ?_)))
          rintro e w1 ⟨he, hB⟩
          obtain ⟨M, hM⟩ : ∃ M, M = sum [49, 50, 51, 52, 53] := ⟨_, rfl⟩
          rw [← hM] at he
          subst he
          have HM := Lib.hid hM
          clear hM
          have hB0 : Below w.heap.size w w1 := Below.trans (by (focus (repeat (first | exact HB.out | refine bal ?_ | refine Below.drew ?_)))) (hB.mono (Below.size (by (focus (repeat (first | exact HB.out | refine bal ?_ | refine Below.drew ?_))))))
          have hK1 := Keeps.below hB
          have HB : Hid (Below w.heap.size w w1) := Lib.hid hB0
          have hsz : w.heap.size ≤ w1.heap.size := hB0.size
          clear hB hB0
          go_wp2_with fail
          refine hKx.out _ _ ?_ (fun hHeld4 => ?_)
          · (try dsimp only); exact ⟨str_row [97, 193, 208, 67, 48] _ (by (focus (repeat (first | exact Row.new _ _ _ _ _ (by first | rfl | simp) rfl | refine Row.old ?_ | refine Row.drew ?_ | assumption | refine Row.keep (by assumption) ?_)))) rfl (by decide), by (focus (repeat (first | exact Row.new _ _ _ _ _ (by first | rfl | simp) rfl | refine Row.old ?_ | refine Row.drew ?_ | assumption | refine Row.keep (by assumption) ?_)))⟩
          clear hHeld3 hKx Kx
          try simp only [Act.put, List.getElem_toArray, List.getElem_cons_zero, List.getElem_cons_succ, List.setIfInBounds_toArray, List.set_cons_zero, List.set_cons_succ]
          refine wpAnyH_ready (rs := [4]) (by kernel_rfl) (by simp) ?_
          refine (AllReadyH.cons rfl (fun Kx hKx => ?_) AllReadyH.nil)
          go_simp
          with_reducible refine (upon4 (w0 := w) ?_ ?_ ?_ ?_)
          (focus (repeat (first | exact Row.new _ _ _ _ _ (by first | rfl | simp) rfl | refine Row.old ?_ | refine Row.drew ?_ | assumption | refine Row.keep (by assumption) ?_)))
          (focus (repeat (first | exact HB.out | refine bal ?_ | refine Below.drew ?_)))
          (focus (first | omega | (simp; omega)))
          intro Y hB hK
          have HB : Hid (Below w.heap.size w Y) := Lib.hid hB
          have hsz : w.heap.size ≤ Y.heap.size := hB.size
          clear hB
          go_wp2_with fail
          refine hKx.out _ _ ?_ (fun hHeld5 => ?_)
          · (try dsimp only); exact ⟨str_row [97, 193, 208, 67, 48] _ (by (focus (repeat (first | exact Row.new _ _ _ _ _ (by first | rfl | simp) rfl | refine Row.old ?_ | refine Row.drew ?_ | assumption | refine Row.keep (by assumption) ?_)))) rfl (by decide), by (focus (repeat (first | exact Row.new _ _ _ _ _ (by first | rfl | simp) rfl | refine Row.old ?_ | refine Row.drew ?_ | assumption | refine Row.keep (by assumption) ?_)))⟩
          clear hHeld4 hKx Kx
          try simp only [Act.put, List.getElem_toArray, List.getElem_cons_zero, List.getElem_cons_succ, List.setIfInBounds_toArray, List.set_cons_zero, List.set_cons_succ]
          refine wpAnyH_ready (rs := [5]) (by kernel_rfl) (by simp) ?_
          refine (AllReadyH.cons rfl (fun Kx hKx => ?_) AllReadyH.nil)
          go_simp
          go_at_call 11
          refine (cu1 _ M HM.out _ ?_).mono ?_
          (focus (repeat (first | exact Row.new _ _ _ _ _ (by first | rfl | simp) rfl | refine Row.old ?_ | refine Row.drew ?_ | assumption | refine Row.keep (by assumption) ?_)))
          rintro e w1 ⟨⟨N, rfl, hN, hT⟩, hB⟩
          have hB0 : Below w.heap.size w w1 := Below.trans (by (focus (repeat (first | exact HB.out | refine bal ?_ | refine Below.drew ?_)))) (hB.mono (Below.size (by (focus (repeat (first | exact HB.out | refine bal ?_ | refine Below.drew ?_))))))
          have hK1 := Keeps.below hB
          have HB : Hid (Below w.heap.size w w1) := Lib.hid hB0
          have hsz : w.heap.size ≤ w1.heap.size := hB0.size
          clear hB hB0
          go_wp2_with fail
          refine hKx.out _ _ ?_ (fun hHeld6 => ?_)
          · (try dsimp only); exact ⟨str_row [97, 193, 208, 67, 48] _ (by (focus (repeat (first | exact Row.new _ _ _ _ _ (by first | rfl | simp) rfl | refine Row.old ?_ | refine Row.drew ?_ | assumption | refine Row.keep (by assumption) ?_)))) rfl (by decide), by (focus (repeat (first | exact Row.new _ _ _ _ _ (by first | rfl | simp) rfl | refine Row.old ?_ | refine Row.drew ?_ | assumption | refine Row.keep (by assumption) ?_)))⟩
          clear hHeld5 hKx Kx
          try simp only [Act.put, List.getElem_toArray, List.getElem_cons_zero, List.getElem_cons_succ, List.setIfInBounds_toArray, List.set_cons_zero, List.set_cons_succ]
          refine wpAnyH_ready (rs := [6]) (by kernel_rfl) (by simp) ?_
          refine (AllReadyH.cons rfl (fun Kx hKx => ?_) AllReadyH.nil)
          go_simp
          go_at_call 17
          with_reducible refine (text_any _ hN _ (HV.out.below HB.out (Nat.le_refl _)).bruijn).mono ?_
          rintro e w1 ⟨he, hB⟩
          rw [hT] at he
          subst he
          have hB0 : Below w.heap.size w w1 := Below.trans (by (focus (repeat (first | exact HB.out | refine bal ?_ | refine Below.drew ?_)))) (hB.mono (Below.size (by (focus (repeat (first | exact HB.out | refine bal ?_ | refine Below.drew ?_))))))
          have hK1 := Keeps.below hB
          have HB : Hid (Below w.heap.size w w1) := Lib.hid hB0
          have hsz : w.heap.size ≤ w1.heap.size := hB0.size
          clear hB hB0
          go_wp2_with fail
          refine hKx.out _ _ ?_ (fun hHeld7 => ?_)
          · (try dsimp only); exact ⟨str_row [97, 193, 208, 67, 48] _ (by (focus (repeat (first | exact Row.new _ _ _ _ _ (by first | rfl | simp) rfl | refine Row.old ?_ | refine Row.drew ?_ | assumption | refine Row.keep (by assumption) ?_)))) rfl (by decide), by (focus (repeat (first | exact Row.new _ _ _ _ _ (by first | rfl | simp) rfl | refine Row.old ?_ | refine Row.drew ?_ | assumption | refine Row.keep (by assumption) ?_)))⟩
          clear hHeld6 hKx Kx
          try simp only [Act.put, List.getElem_toArray, List.getElem_cons_zero, List.getElem_cons_succ, List.setIfInBounds_toArray, List.set_cons_zero, List.set_cons_succ]
          refine wpAnyH_take (i := 7) (v := ?_) rfl (by kernel_rfl) (by kernel_rfl) (by kernel_rfl) (fun _ _ _ h => h) (Or.inl ⟨by rfl, ?_⟩) (by assumption) ?_
          rotate_left
          · intro w hSw; (try dsimp only at hSw); go_simp; with_reducible rfl
          try simp only [Act.put, List.getElem_toArray, List.getElem_cons_zero, List.getElem_cons_succ, List.setIfInBounds_toArray, List.set_cons_zero, List.set_cons_succ]
          refine wpAnyH_take (i := 8) (v := ?_) rfl (by kernel_rfl) (by kernel_rfl) (by kernel_rfl) (fun _ _ _ h => h) (Or.inl ⟨by rfl, ?_⟩) (by assumption) ?_
          rotate_left
          · intro w hSw; (try dsimp only at hSw); go_simp; with_reducible rfl
          try simp only [Act.put, List.getElem_toArray, List.getElem_cons_zero, List.getElem_cons_succ, List.setIfInBounds_toArray, List.set_cons_zero, List.set_cons_succ]
          refine wpAnyH_take (i := 13) (v := ?_) rfl (by kernel_rfl) (by kernel_rfl) (by kernel_rfl) (fun _ _ _ h => h) (Or.inl ⟨by rfl, ?_⟩) (by assumption) ?_
          rotate_left
          · intro w hSw; (try dsimp only at hSw); go_simp; with_reducible rfl
          try simp only [Act.put, List.getElem_toArray, List.getElem_cons_zero, List.getElem_cons_succ, List.setIfInBounds_toArray, List.set_cons_zero, List.set_cons_succ]
          refine wpAnyH_take (i := 14) (v := ?_) rfl (by kernel_rfl) (by kernel_rfl) (by kernel_rfl) (fun _ _ _ h => h) (Or.inl ⟨by rfl, ?_⟩) (by assumption) ?_
          rotate_left
          · intro w hSw; (try dsimp only at hSw); go_simp; with_reducible rfl
          try simp only [Act.put, List.getElem_toArray, List.getElem_cons_zero, List.getElem_cons_succ, List.setIfInBounds_toArray, List.set_cons_zero, List.set_cons_succ]
          refine wpAnyH_ready (rs := [9]) (by kernel_rfl) (by simp) ?_
          refine (AllReadyH.cons rfl (fun Kx hKx => ?_) AllReadyH.nil)
          go_simp
          refine hKx.out _ _ ?_ (fun hHeld8 => ?_)
          · (try dsimp only); exact ⟨str_row [97, 193, 208, 67, 48] _ (by (focus (repeat (first | exact Row.new _ _ _ _ _ (by first | rfl | simp) rfl | refine Row.old ?_ | refine Row.drew ?_ | assumption | refine Row.keep (by assumption) ?_)))) rfl (by decide), by (focus (repeat (first | exact Row.new _ _ _ _ _ (by first | rfl | simp) rfl | refine Row.old ?_ | refine Row.drew ?_ | assumption | refine Row.keep (by assumption) ?_)))⟩
          clear hHeld7 hKx Kx
          try simp only [Act.put, List.getElem_toArray, List.getElem_cons_zero, List.getElem_cons_succ, List.setIfInBounds_toArray, List.set_cons_zero, List.set_cons_succ]
          refine wpAnyH_ready (rs := [10]) (by kernel_rfl) (by simp) ?_
          refine (AllReadyH.cons rfl (fun Kx hKx => ?_) AllReadyH.nil)
          go_simp
          with_reducible refine (upon1 (w0 := w) ?_ ?_ ?_ ?_)
          (focus (repeat (first | exact Row.new _ _ _ _ _ (by first | rfl | simp) rfl | refine Row.old ?_ | refine Row.drew ?_ | assumption | refine Row.keep (by assumption) ?_)))
          (focus (repeat (first | exact HB.out | refine bal ?_ | refine Below.drew ?_)))
          (focus (first | omega | (simp; omega)))
          intro Y hB hK
          have HB : Hid (Below w.heap.size w Y) := Lib.hid hB
          have hsz : w.heap.size ≤ Y.heap.size := hB.size
          clear hB
          go_wp2_with fail
          refine hKx.out _ _ ?_ (fun hHeld9 => ?_)
          · (try dsimp only); exact ⟨str_row [97, 193, 208, 67, 48] _ (by (focus (repeat (first | exact Row.new _ _ _ _ _ (by first | rfl | simp) rfl | refine Row.old ?_ | refine Row.drew ?_ | assumption | refine Row.keep (by assumption) ?_)))) rfl (by decide), by (focus (repeat (first | exact Row.new _ _ _ _ _ (by first | rfl | simp) rfl | refine Row.old ?_ | refine Row.drew ?_ | assumption | refine Row.keep (by assumption) ?_)))⟩
          clear hHeld8 hKx Kx
          try simp only [Act.put, List.getElem_toArray, List.getElem_cons_zero, List.getElem_cons_succ, List.setIfInBounds_toArray, List.set_cons_zero, List.set_cons_succ]
          refine wpAnyH_ready (rs := [11]) (by kernel_rfl) (by simp) ?_
          refine (AllReadyH.cons rfl (fun Kx hKx => ?_) AllReadyH.nil)
          go_simp
          go_at_call 13
          refine (ca1 _ _ ?_).mono ?_
          (focus (repeat (first | exact Row.new _ _ _ _ _ (by first | rfl | simp) rfl | refine Row.old ?_ | refine Row.drew ?_ | assumption | refine Row.keep (by assumption) ?_)))
          rintro e w1 ⟨⟨v, rfl, hcv⟩, hB⟩
          have hB0 : Below w.heap.size w w1 := Below.trans (by (focus (repeat (first | exact HB.out | refine bal ?_ | refine Below.drew ?_)))) (hB.mono (Below.size (by (focus (repeat (first | exact HB.out | refine bal ?_ | refine Below.drew ?_))))))
          have hK1 := Keeps.below hB
          have HB : Hid (Below w.heap.size w w1) := Lib.hid hB0
          have hsz : w.heap.size ≤ w1.heap.size := hB0.size
          clear hB hB0
          go_wp2_with fail
          refine hKx.out _ _ ?_ (fun hHeld10 => ?_)
          · (try dsimp only); exact ⟨str_row [97, 193, 208, 67, 48] _ (by (focus (repeat (first | exact Row.new _ _ _ _ _ (by first | rfl | simp) rfl | refine Row.old ?_ | refine Row.drew ?_ | assumption | refine Row.keep (by assumption) ?_)))) rfl (by decide), by (focus (repeat (first | exact Row.new _ _ _ _ _ (by first | rfl | simp) rfl | refine Row.old ?_ | refine Row.drew ?_ | assumption | refine Row.keep (by assumption) ?_)))⟩
          clear hHeld9 hKx Kx
          try simp only [Act.put, List.getElem_toArray, List.getElem_cons_zero, List.getElem_cons_succ, List.setIfInBounds_toArray, List.set_cons_zero, List.set_cons_succ]
          refine wpAnyH_ready (rs := [12]) (by kernel_rfl) (by simp) ?_
          refine (AllReadyH.cons rfl (fun Kx hKx => ?_) AllReadyH.nil)
          go_simp
          refine hKx.out _ _ ?_ (fun hHeld11 => ?_)
          · (try dsimp only); exact ⟨str_row [97, 193, 208, 67, 48] _ (by (focus (repeat (first | exact Row.new _ _ _ _ _ (by first | rfl | simp) rfl | refine Row.old ?_ | refine Row.drew ?_ | assumption | refine Row.keep (by assumption) ?_)))) rfl (by decide), by (focus (repeat (first | exact Row.new _ _ _ _ _ (by first | rfl | simp) rfl | refine Row.old ?_ | refine Row.drew ?_ | assumption | refine Row.keep (by assumption) ?_)))⟩
          clear hHeld10 hKx Kx
          try simp only [Act.put, List.getElem_toArray, List.getElem_cons_zero, List.getElem_cons_succ, List.setIfInBounds_toArray, List.set_cons_zero, List.set_cons_succ]
          refine wpAnyH_take (i := 15) (v := ?_) rfl (by kernel_rfl) (by kernel_rfl) (by kernel_rfl) (fun _ _ _ h => h) (Or.inl ⟨by rfl, ?_⟩) (by assumption) ?_
          rotate_left
          · intro w hSw; (try dsimp only at hSw); go_simp; with_reducible rfl
          try simp only [Act.put, List.getElem_toArray, List.getElem_cons_zero, List.getElem_cons_succ, List.setIfInBounds_toArray, List.set_cons_zero, List.set_cons_succ]
          refine wpAnyH_take (i := 16) (v := ?_) rfl (by kernel_rfl) (by kernel_rfl) (by kernel_rfl) (fun _ _ _ h => h) (Or.inl ⟨by rfl, ?_⟩) (by assumption) ?_
          rotate_left
          · intro w hSw; (try dsimp only at hSw); go_simp; with_reducible rfl
          try simp only [Act.put, List.getElem_toArray, List.getElem_cons_zero, List.getElem_cons_succ, List.setIfInBounds_toArray, List.set_cons_zero, List.set_cons_succ]
          refine wpAnyH_take (i := 17) (v := ?_) rfl (by kernel_rfl) (by kernel_rfl) (by kernel_rfl) (fun _ _ _ h => h) (Or.inl ⟨by rfl, ?_⟩) (by assumption) ?_
          rotate_left
          · intro w hSw; (try dsimp only at hSw); go_simp; with_reducible rfl
          try simp only [Act.put, List.getElem_toArray, List.getElem_cons_zero, List.getElem_cons_succ, List.setIfInBounds_toArray, List.set_cons_zero, List.set_cons_succ]
          refine wpAnyH_take (i := 18) (v := ?_) rfl (by kernel_rfl) (by kernel_rfl) (by kernel_rfl) (fun _ _ _ h => h) (Or.inl ⟨by rfl, ?_⟩) (by assumption) ?_
          rotate_left
          · intro w hSw; (try dsimp only at hSw); go_simp; with_reducible rfl
          try simp only [Act.put, List.getElem_toArray, List.getElem_cons_zero, List.getElem_cons_succ, List.setIfInBounds_toArray, List.set_cons_zero, List.set_cons_succ]
          refine wpAnyH_ready (rs := [19]) (by kernel_rfl) (by simp) ?_
          refine (AllReadyH.cons rfl (fun Kx hKx => ?_) AllReadyH.nil)
          go_simp
          refine hKx.out _ _ ?_ (fun hHeld12 => ?_)
          · (try dsimp only); exact ⟨str_row [97, 193, 208, 67, 48] _ (by (focus (repeat (first | exact Row.new _ _ _ _ _ (by first | rfl | simp) rfl | refine Row.old ?_ | refine Row.drew ?_ | assumption | refine Row.keep (by assumption) ?_)))) rfl (by decide), by (focus (repeat (first | exact Row.new _ _ _ _ _ (by first | rfl | simp) rfl | refine Row.old ?_ | refine Row.drew ?_ | assumption | refine Row.keep (by assumption) ?_)))⟩
          clear hHeld11 hKx Kx
          try simp only [Act.put, List.getElem_toArray, List.getElem_cons_zero, List.getElem_cons_succ, List.setIfInBounds_toArray, List.set_cons_zero, List.set_cons_succ]
          refine wpAnyH_ready (rs := [20]) (by kernel_rfl) (by simp) ?_
          refine (AllReadyH.cons rfl (fun Kx hKx => ?_) AllReadyH.nil)
          go_simp
          go_at_call 15
          refine (co1 _ _ _ ?_ ?_).mono ?_
          (focus (repeat (first | exact Row.new _ _ _ _ _ (by first | rfl | simp) rfl | refine Row.old ?_ | refine Row.drew ?_ | assumption | refine Row.keep (by assumption) ?_)))
          (focus (repeat (first | exact Row.new _ _ _ _ _ (by first | rfl | simp) rfl | refine Row.old ?_ | refine Row.drew ?_ | assumption | refine Row.keep (by assumption) ?_)))
          rintro e w1 ⟨rfl, hB⟩
          have hB0 : Below w.heap.size w w1 := Below.trans (by (focus (repeat (first | exact HB.out | refine bal ?_ | refine Below.drew ?_)))) (hB.mono (Below.size (by (focus (repeat (first | exact HB.out | refine bal ?_ | refine Below.drew ?_))))))
          have hK1 := Keeps.below hB
          have HB : Hid (Below w.heap.size w w1) := Lib.hid hB0
          have hsz : w.heap.size ≤ w1.heap.size := hB0.size
          clear hB hB0
          go_wp2_with fail
          refine hKx.out _ _ ?_ (fun hHeld13 => ?_)
          · (try dsimp only); exact ⟨str_row [97, 193, 208, 67, 48] _ (by (focus (repeat (first | exact Row.new _ _ _ _ _ (by first | rfl | simp) rfl | refine Row.old ?_ | refine Row.drew ?_ | assumption | refine Row.keep (by assumption) ?_)))) rfl (by decide), by (focus (repeat (first | exact Row.new _ _ _ _ _ (by first | rfl | simp) rfl | refine Row.old ?_ | refine Row.drew ?_ | assumption | refine Row.keep (by assumption) ?_)))⟩
          clear hHeld12 hKx Kx
          try simp only [Act.put, List.getElem_toArray, List.getElem_cons_zero, List.getElem_cons_succ, List.setIfInBounds_toArray, List.set_cons_zero, List.set_cons_succ]
          refine wpAnyH_take (i := 21) (v := ?_) rfl (by kernel_rfl) (by kernel_rfl) (by kernel_rfl) (fun _ _ _ h => h) (Or.inl ⟨by rfl, ?_⟩) (by assumption) ?_
          rotate_left
          · intro w hSw; (try dsimp only at hSw); go_simp; with_reducible rfl
          try simp only [Act.put, List.getElem_toArray, List.getElem_cons_zero, List.getElem_cons_succ, List.setIfInBounds_toArray, List.set_cons_zero, List.set_cons_succ]
          refine wpAnyH_take (i := 22) (v := ?_) rfl (by kernel_rfl) (by kernel_rfl) (by kernel_rfl) (fun _ _ _ h => h) (Or.inl ⟨by rfl, ?_⟩) (by assumption) ?_
          rotate_left
          · intro w hSw; (try dsimp only at hSw); go_simp; with_reducible rfl
          try simp only [Act.put, List.getElem_toArray, List.getElem_cons_zero, List.getElem_cons_succ, List.setIfInBounds_toArray, List.set_cons_zero, List.set_cons_succ]
          refine wpAnyH_done (by kernel_rfl) ?_ _
          refine NoPanic.normal ?_
          go_wp2_with (first
            | (go_at_call 15; with_reducible refine (ko_nil _).mono ?_; rintro e w1 ⟨rfl, hB⟩; have HB : Hid (Below w.heap.size w w1) := Lib.hid (HB.out.trans (hB.mono HB.out.size)); clear hB)
            | (go_at_call 15; with_reducible refine (ko_z _).mono ?_; rintro e w1 ⟨rfl, hB⟩; have HB : Hid (Below w.heap.size w w1) := Lib.hid (HB.out.trans (hB.mono HB.out.size)); clear hB)
            | (go_at_call 15; with_reducible refine (ko_o _).mono ?_; rintro e w1 ⟨rfl, hB⟩; have HB : Hid (Below w.heap.size w w1) := Lib.hid (HB.out.trans (hB.mono HB.out.size)); clear hB)
            | (go_at_call 15; with_reducible refine (ko_c _).mono ?_; rintro e w1 ⟨rfl, hB⟩; have HB : Hid (Below w.heap.size w w1) := Lib.hid (HB.out.trans (hB.mono HB.out.size)); clear hB)
            | (go_at_call 20; with_reducible refine (kp_l _ (HV.out.below HB.out (Nat.le_refl _))).mono ?_; rintro e w1 ⟨rfl, hB⟩; have HB : Hid (Below w.heap.size w w1) := Lib.hid (HB.out.trans (hB.mono HB.out.size)); clear hB)
            | (go_at_call 20; with_reducible refine (kp_u _ (HV.out.below HB.out (Nat.le_refl _))).mono ?_; rintro e w1 ⟨rfl, hB⟩; have HB : Hid (Below w.heap.size w w1) := Lib.hid (HB.out.trans (hB.mono HB.out.size)); clear hB))
          go_ret
          exact ⟨rfl, HB.out⟩
        · go_simp
          with_reducible refine (upon4 (w0 := w) ?_ ?_ ?_ ?_)
          (focus (repeat (first | exact Row.new _ _ _ _ _ (by first | rfl | simp) rfl | refine Row.old ?_ | refine Row.drew ?_ | assumption | refine Row.keep (by assumption) ?_)))
          (focus (repeat (first | exact HB.out | refine bal ?_ | refine Below.drew ?_)))
          (focus (first | omega | (simp; omega)))
          intro Y hB hK
          have HB : Hid (Below w.heap.size w Y) := Lib.hid hB
          have hsz : w.heap.size ≤ Y.heap.size := hB.size
          clear hB
          go_wp2_with fail
          refine hKx.out _ _ ?_ (fun hHeld4 => ?_)
          · (try dsimp only); exact ⟨str_row [97, 193, 208, 67, 48] _ (by (focus (repeat (first | exact Row.new _ _ _ _ _ (by first | rfl | simp) rfl | refine Row.old ?_ | refine Row.drew ?_ | assumption | refine Row.keep (by assumption) ?_)))) rfl (by decide), by (focus (repeat (first | exact Row.new _ _ _ _ _ (by first | rfl | simp) rfl | refine Row.old ?_ | refine Row.drew ?_ | assumption | refine Row.keep (by assumption) ?_)))⟩
          clear hHeld3 hKx Kx
          try simp only [Act.put, List.getElem_toArray, List.getElem_cons_zero, List.getElem_cons_succ, List.setIfInBounds_toArray, List.set_cons_zero, List.set_cons_succ]
          refine wpAnyH_ready (rs := [2]) (by kernel_rfl) (by simp) ?_
          refine (AllReadyH.cons rfl (fun Kx hKx => ?_) AllReadyH.nil)
          go_simp
          go_at_call 9
          refine (cs1 _ _ ?_).mono ?_
          (focus (repeat (first | exact Row.new _ _ _ _ _ (by first | rfl | simp) rfl | refine Row.old ?_ | refine Row.drew ?_ | assumption | refine Row.keep (by assumption) ?_)))
          rintro e w1 ⟨he, hB⟩
          obtain ⟨M, hM⟩ : ∃ M, M = sum [49, 50, 51, 52, 53] := ⟨_, rfl⟩
          rw [← hM] at he
          subst he
          have HM := Lib.hid hM
          clear hM
          have hB0 : Below w.heap.size w w1 := Below.trans (by (focus (repeat (first | exact HB.out | refine bal ?_ | refine Below.drew ?_)))) (hB.mono (Below.size (by (focus (repeat (first | exact HB.out | refine bal ?_ | refine Below.drew ?_))))))
          have hK1 := Keeps.below hB
          have HB : Hid (Below w.heap.size w w1) := Lib.hid hB0
          have hsz : w.heap.size ≤ w1.heap.size := hB0.size
          clear hB hB0
          go_wp2_with fail
          refine hKx.out _ _ ?_ (fun hHeld5 => ?_)
          · (try dsimp only); exact ⟨str_row [97, 193, 208, 67, 48] _ (by (focus (repeat (first | exact Row.new _ _ _ _ _ (by first | rfl | simp) rfl | refine Row.old ?_ | refine Row.drew ?_ | assumption | refine Row.keep (by assumption) ?_)))) rfl (by decide), by (focus (repeat (first | exact Row.new _ _ _ _ _ (by first | rfl | simp) rfl | refine Row.old ?_ | refine Row.drew ?_ | assumption | refine Row.keep (by assumption) ?_)))⟩
          clear hHeld4 hKx Kx
          try simp only [Act.put, List.getElem_toArray, List.getElem_cons_zero, List.getElem_cons_succ, List.setIfInBounds_toArray, List.set_cons_zero, List.set_cons_succ]
          refine wpAnyH_ready (rs := [5]) (by kernel_rfl) (by simp) ?_
          refine (AllReadyH.cons rfl (fun Kx hKx => ?_) AllReadyH.nil)
          go_simp
          go_at_call 11
          refine (cu1 _ M HM.out _ ?_).mono ?_
          (focus (repeat (first | exact Row.new _ _ _ _ _ (by first | rfl | simp) rfl | refine Row.old ?_ | refine Row.drew ?_ | assumption | refine Row.keep (by assumption) ?_)))
          rintro e w1 ⟨⟨N, rfl, hN, hT⟩, hB⟩
          have hB0 : Below w.heap.size w w1 := Below.trans (by (focus (repeat (first | exact HB.out | refine bal ?_ | refine Below.drew ?_)))) (hB.mono (Below.size (by (focus (repeat (first | exact HB.out | refine bal ?_ | refine Below.drew ?_))))))
          have hK1 := Keeps.below hB
          have HB : Hid (Below w.heap.size w w1) := Lib.hid hB0
          have hsz : w.heap.size ≤ w1.heap.size := hB0.size
          clear hB hB0
          go_wp2_with fail
          refine hKx.out _ _ ?_ (fun hHeld6 => ?_)
          · (try dsimp only); exact ⟨str_row [97, 193, 208, 67, 48] _ (by (focus (repeat (first | exact Row.new _ _ _ _ _ (by first | rfl | simp) rfl | refine Row.old ?_ | refine Row.drew ?_ | assumption | refine Row.keep (by assumption) ?_)))) rfl (by decide), by (focus (repeat (first | exact Row.new _ _ _ _ _ (by first | rfl | simp) rfl | refine Row.old ?_ | refine Row.drew ?_ | assumption | refine Row.keep (by assumption) ?_)))⟩
          clear hHeld5 hKx Kx
          try simp only [Act.put, List.getElem_toArray, List.getElem_cons_zero, List.getElem_cons_succ, List.setIfInBounds_toArray, List.set_cons_zero, List.set_cons_succ]
          refine wpAnyH_ready (rs := [6]) (by kernel_rfl) (by simp) ?_
          refine (AllReadyH.cons rfl (fun Kx hKx => ?_) AllReadyH.nil)
          go_simp
          go_at_call 17
          with_reducible refine (text_any _ hN _ (HV.out.below HB.out (Nat.le_refl _)).bruijn).mono ?_
          rintro e w1 ⟨he, hB⟩
          rw [hT] at he
          subst he
          have hB0 : Below w.heap.size w w1 := Below.trans (by (focus (repeat (first | exact HB.out | refine bal ?_ | refine Below.drew ?_)))) (hB.mono (Below.size (by (focus (repeat (first | exact HB.out | refine bal ?_ | refine Below.drew ?_))))))
          have hK1 := Keeps.below hB
          have HB : Hid (Below w.heap.size w w1) := Lib.hid hB0
          have hsz : w.heap.size ≤ w1.heap.size := hB0.size
          clear hB hB0
          go_wp2_with fail
          refine hKx.out _ _ ?_ (fun hHeld7 => ?_)
          · (try dsimp only); exact ⟨str_row [97, 193, 208, 67, 48] _ (by (focus (repeat (first | exact Row.new _ _ _ _ _ (by first | rfl | simp) rfl | refine Row.old ?_ | refine Row.drew ?_ | assumption | refine Row.keep (by assumption) ?_)))) rfl (by decide), by (focus (repeat (first | exact Row.new _ _ _ _ _ (by first | rfl | simp) rfl | refine Row.old ?_ | refine Row.drew ?_ | assumption | refine Row.keep (by assumption) ?_)))⟩
          clear hHeld6 hKx Kx
          try simp only [Act.put, List.getElem_toArray, List.getElem_cons_zero, List.getElem_cons_succ, List.setIfInBounds_toArray, List.set_cons_zero, List.set_cons_succ]
          refine wpAnyH_take (i := 7) (v := ?_) rfl (by kernel_rfl) (by kernel_rfl) (by kernel_rfl) (fun _ _ _ h => h) (Or.inl ⟨by rfl, ?_⟩) (by assumption) ?_
          rotate_left
          · intro w hSw; (try dsimp only at hSw); go_simp; with_reducible rfl
          try simp only [Act.put, List.getElem_toArray, List.getElem_cons_zero, List.getElem_cons_succ, List.setIfInBounds_toArray, List.set_cons_zero, List.set_cons_succ]
          refine wpAnyH_take (i := 8) (v := ?_) rfl (by kernel_rfl) (by kernel_rfl) (by kernel_rfl) (fun _ _ _ h => h) (Or.inl ⟨by rfl, ?_⟩) (by assumption) ?_
          rotate_left
          · intro w hSw; (try dsimp only at hSw); go_simp; with_reducible rfl
          try simp only [Act.put, List.getElem_toArray, List.getElem_cons_zero, List.getElem_cons_succ, List.setIfInBounds_toArray, List.set_cons_zero, List.set_cons_succ]
          refine wpAnyH_take (i := 13) (v := ?_) rfl (by kernel_rfl) (by kernel_rfl) (by kernel_rfl) (fun _ _ _ h => h) (Or.inl ⟨by rfl, ?_⟩) (by assumption) ?_
          rotate_left
          · intro w hSw; (try dsimp only at hSw); go_simp; with_reducible rfl
          try simp only [Act.put, List.getElem_toArray, List.getElem_cons_zero, List.getElem_cons_succ, List.setIfInBounds_toArray, List.set_cons_zero, List.set_cons_succ]
          refine wpAnyH_take (i := 14) (v := ?_) rfl (by kernel_rfl) (by kernel_rfl) (by kernel_rfl) (fun _ _ _ h => h) (Or.inl ⟨by rfl, ?_⟩) (by assumption) ?_
          rotate_left
          · intro w hSw; (try dsimp only at hSw); go_simp; with_reducible rfl
          try simp only [Act.put, List.getElem_toArray, List.getElem_cons_zero, List.getElem_cons_succ, List.setIfInBounds_toArray, List.set_cons_zero, List.set_cons_succ]
          refine wpAnyH_ready (rs := [9]) (by kernel_rfl) (by simp) ?_
          refine (AllReadyH.cons rfl (fun Kx hKx => ?_) AllReadyH.nil)
          go_simp
          refine hKx.out _ _ ?_ (fun hHeld8 => ?_)
          · (try dsimp only); exact ⟨str_row [97, 193, 208, 67, 48] _ (by (focus (repeat (first | exact Row.new _ _ _ _ _ (by first | rfl | simp) rfl | refine Row.old ?_ | refine Row.drew ?_ | assumption | refine Row.keep (by assumption) ?_)))) rfl (by decide), by (focus (repeat (first | exact Row.new _ _ _ _ _ (by first | rfl | simp) rfl | refine Row.old ?_ | refine Row.drew ?_ | assumption | refine Row.keep (by assumption) ?_)))⟩
          clear hHeld7 hKx Kx
          try simp only [Act.put, List.getElem_toArray, List.getElem_cons_zero, List.getElem_cons_succ, List.setIfInBounds_toArray, List.set_cons_zero, List.set_cons_succ]
          refine wpAnyH_ready (rs := [10]) (by kernel_rfl) (by simp) ?_
          refine (AllReadyH.cons rfl (fun Kx hKx => ?_) AllReadyH.nil)
          go_simp
          with_reducible refine (upon1 (w0 := w) ?_ ?_ ?_ ?_)
          (focus (repeat (first | exact Row.new _ _ _ _ _ (by first | rfl | simp) rfl | refine Row.old ?_ | refine Row.drew ?_ | assumption | refine Row.keep (by assumption) ?_)))
          (focus (repeat (first | exact HB.out | refine bal ?_ | refine Below.drew ?_)))
          (focus (first | omega | (simp; omega)))
          intro Y hB hK
          have HB : Hid (Below w.heap.size w Y) := Lib.hid hB
          have hsz : w.heap.size ≤ Y.heap.size := hB.size
          clear hB
          go_wp2_with fail
          refine hKx.out _ _ ?_ (fun hHeld9 => ?_)
          · (try dsimp only); exact ⟨str_row [97, 193, 208, 67, 48] _ (by (focus (repeat (first | exact Row.new _ _ _ _ _ (by first | rfl | simp) rfl | refine Row.old ?_ | refine Row.drew ?_ | assumption | refine Row.keep (by assumption) ?_)))) rfl (by decide), by (focus (repeat (first | exact Row.new _ _ _ _ _ (by first | rfl | simp) rfl | refine Row.old ?_ | refine Row.drew ?_ | assumption | refine Row.keep (by assumption) ?_)))⟩
          clear hHeld8 hKx Kx
          try simp only [Act.put, List.getElem_toArray, List.getElem_cons_zero, List.getElem_cons_succ, List.setIfInBounds_toArray, List.set_cons_zero, List.set_cons_succ]
          refine wpAnyH_ready (rs := [11]) (by kernel_rfl) (by simp) ?_
          refine (AllReadyH.cons rfl (fun Kx hKx => ?_) AllReadyH.nil)
          go_simp
          go_at_call 13
          refine (ca1 _ _ ?_).mono ?_
          (focus (repeat (first | exact Row.new _ _ _ _ _ (by first | rfl | simp) rfl | refine Row.old ?_ | refine Row.drew ?_ | assumption | refine Row.keep (by assumption) ?_)))
          rintro e w1 ⟨⟨v, rfl, hcv⟩, hB⟩
          have hB0 : Below w.heap.size w w1 := Below.trans (by (focus (repeat (first | exact HB.out | refine bal ?_ | refine Below.drew ?_)))) (hB.mono (Below.size (by (focus (repeat (first | exact HB.out | refine bal ?_ | refine Below.drew ?_))))))
          have hK1 := Keeps.below hB
          have HB : Hid (Below w.heap.size w w1) := Lib.hid hB0
          have hsz : w.heap.size ≤ w1.heap.size := hB0.size
          clear hB hB0
          go_wp2_with fail
          refine hKx.out _ _ ?_ (fun hHeld10 => ?_)
          · (try dsimp only); exact ⟨str_row [97, 193, 208, 67, 48] _ (by (focus (repeat (first | exact Row.new _ _ _ _ _ (by first | rfl | simp) rfl | refine Row.old ?_ | refine Row.drew ?_ | assumption | refine Row.keep (by assumption) ?_)))) rfl (by decide), by (focus (repeat (first | exact Row.new _ _ _ _ _ (by first | rfl | simp) rfl | refine Row.old ?_ | refine Row.drew ?_ | assumption | refine Row.keep (by assumption) ?_)))⟩
          clear hHeld9 hKx Kx
          try simp only [Act.put, List.getElem_toArray, List.getElem_cons_zero, List.getElem_cons_succ, List.setIfInBounds_toArray, List.set_cons_zero, List.set_cons_succ]
          refine wpAnyH_ready (rs := [12]) (by kernel_rfl) (by simp) ?_
          refine (AllReadyH.cons rfl (fun Kx hKx => ?_) AllReadyH.nil)
          go_simp
          refine hKx.out _ _ ?_ (fun hHeld11 => ?_)
          · (try dsimp only); exact ⟨str_row [97, 193, 208, 67, 48] _ (by (focus (repeat (first | exact Row.new _ _ _ _ _ (by first | rfl | simp) rfl | refine Row.old ?_ | refine Row.drew ?_ | assumption | refine Row.keep (by assumption) ?_)))) rfl (by decide), by (focus (repeat (first | exact Row.new _ _ _ _ _ (by first | rfl | simp) rfl | refine Row.old ?_ | refine Row.drew ?_ | assumption | refine Row.keep (by assumption) ?_)))⟩
          clear hHeld10 hKx Kx
          try simp only [Act.put, List.getElem_toArray, List.getElem_cons_zero, List.getElem_cons_succ, List.setIfInBounds_toArray, List.set_cons_zero, List.set_cons_succ]
          refine wpAnyH_take (i := 15) (v := ?_) rfl (by kernel_rfl) (by kernel_rfl) (by kernel_rfl) (fun _ _ _ h => h) (Or.inl ⟨by rfl, ?_⟩) (by assumption) ?_
          rotate_left
          · intro w hSw; (try dsimp only at hSw); go_simp; with_reducible rfl
          try simp only [Act.put, List.getElem_toArray, List.getElem_cons_zero, List.getElem_cons_succ, List.setIfInBounds_toArray, List.set_cons_zero, List.set_cons_succ]
          refine wpAnyH_take (i := 16) (v := ?_) rfl (by kernel_rfl) (by kernel_rfl) (by kernel_rfl) (fun _ _ _ h => h) (Or.inl ⟨by rfl, ?_⟩) (by assumption) ?_
          rotate_left
          · intro w hSw; (try dsimp only at hSw); go_simp; with_reducible rfl
          try simp only [Act.put, List.getElem_toArray, List.getElem_cons_zero, List.getElem_cons_succ, List.setIfInBounds_toArray, List.set_cons_zero, List.set_cons_succ]
          refine wpAnyH_take (i := 17) (v := ?_) rfl (by kernel_rfl) (by kernel_rfl) (by kernel_rfl) (fun _ _ _ h => h) (Or.inl ⟨by rfl, ?_⟩) (by assumption) ?_
          rotate_left
          · intro w hSw; (try dsimp only at hSw); go_simp; with_reducible rfl
          try simp only [Act.put, List.getElem_toArray, List.getElem_cons_zero, List.getElem_cons_succ, List.setIfInBounds_toArray, List.set_cons_zero, List.set_cons_succ]
          refine wpAnyH_take (i := 18) (v := ?_) rfl (by kernel_rfl) (by kernel_rfl) (by kernel_rfl) (fun _ _ _ h => h) (Or.inl ⟨by rfl, ?_⟩) (by assumption) ?_
          rotate_left
          · intro w hSw; (try dsimp only at hSw); go_simp; with_reducible rfl
          try simp only [Act.put, List.getElem_toArray, List.getElem_cons_zero, List.getElem_cons_succ, List.setIfInBounds_toArray, List.set_cons_zero, List.set_cons_succ]
          refine wpAnyH_ready (rs := [19]) (by kernel_rfl) (by simp) ?_
          refine (AllReadyH.cons rfl (fun Kx hKx => ?_) AllReadyH.nil)
          go_simp
          refine hKx.out _ _ ?_ (fun hHeld12 => ?_)
          · (try dsimp only); exact ⟨str_row [97, 193, 208, 67, 48] _ (by (focus (repeat (first | exact Row.new _ _ _ _ _ (by first | rfl | simp) rfl | refine Row.old ?_ | refine Row.drew ?_ | assumption | refine Row.keep (by assumption) ?_)))) rfl (by decide), by (focus (repeat (first | exact Row.new _ _ _ _ _ (by first | rfl | simp) rfl | refine Row.old ?_ | refine Row.drew ?_ | assumption | refine Row.keep (by assumption) ?_)))⟩
          clear hHeld11 hKx Kx
          try simp only [Act.put, List.getElem_toArray, List.getElem_cons_zero, List.getElem_cons_succ, List.setIfInBounds_toArray, List.set_cons_zero, List.set_cons_succ]
          refine wpAnyH_ready (rs := [20]) (by kernel_rfl) (by simp) ?_
          refine (AllReadyH.cons rfl (fun Kx hKx => ?_) AllReadyH.nil)
          go_simp
          go_at_call 15
          refine (co1 _ _ _ ?_ ?_).mono ?_
          (focus (repeat (first | exact Row.new _ _ _ _ _ (by first | rfl | simp) rfl | refine Row.old ?_ | refine Row.drew ?_ | assumption | refine Row.keep (by assumption) ?_)))
          (focus (repeat (first | exact Row.new _ _ _ _ _ (by first | rfl | simp) rfl | refine Row.old ?_ | refine Row.drew ?_ | assumption | refine Row.keep (by assumption) ?_)))
          rintro e w1 ⟨rfl, hB⟩
          have hB0 : Below w.heap.size w w1 := Below.trans (by (focus (repeat (first | exact HB.out | refine bal ?_ | refine Below.drew ?_)))) (hB.mono (Below.size (by (focus (repeat (first | exact HB.out | refine bal ?_ | refine Below.drew ?_))))))
          have hK1 := Keeps.below hB
          have HB : Hid (Below w.heap.size w w1) := Lib.hid hB0
          have hsz : w.heap.size ≤ w1.heap.size := hB0.size
          clear hB hB0
          go_wp2_with fail
          refine hKx.out _ _ ?_ (fun hHeld13 => ?_)
          · (try dsimp only); exact ⟨str_row [97, 193, 208, 67, 48] _ (by (focus (repeat (first | exact Row.new _ _ _ _ _ (by first | rfl | simp) rfl | refine Row.old ?_ | refine Row.drew ?_ | assumption | refine Row.keep (by assumption) ?_)))) rfl (by decide), by (focus (repeat (first | exact Row.new _ _ _ _ _ (by first | rfl | simp) rfl | refine Row.old ?_ | refine Row.drew ?_ | assumption | refine Row.keep (by assumption) ?_)))⟩
          clear hHeld12 hKx Kx
          try simp only [Act.put, List.getElem_toArray, List.getElem_cons_zero, List.getElem_cons_succ, List.setIfInBounds_toArray, List.set_cons_zero, List.set_cons_succ]
          refine wpAnyH_take (i := 21) (v := ?_) rfl (by kernel_rfl) (by kernel_rfl) (by kernel_rfl) (fun _ _ _ h => h) (Or.inl ⟨by rfl, ?_⟩) (by assumption) ?_
          rotate_left
          · intro w hSw; (try dsimp only at hSw); go_simp; with_reducible rfl
          try simp only [Act.put, List.getElem_toArray, List.getElem_cons_zero, List.getElem_cons_succ, List.setIfInBounds_toArray, List.set_cons_zero, List.set_cons_succ]
          refine wpAnyH_take (i := 22) (v := ?_) rfl (by kernel_rfl) (by kernel_rfl) (by kernel_rfl) (fun _ _ _ h => h) (Or.inl ⟨by rfl, ?_⟩) (by assumption) ?_
          rotate_left
          · intro w hSw; (try dsimp only at hSw); go_simp; with_reducible rfl
          try simp only [Act.put, List.getElem_toArray, List.getElem_cons_zero, List.getElem_cons_succ, List.setIfInBounds_toArray, List.set_cons_zero, List.set_cons_succ]
          refine wpAnyH_done (by kernel_rfl) ?_ _
          refine NoPanic.normal ?_
          go_wp2_with (first
            | (go_at_call 15; with_reducible refine (ko_nil _).mono ?_; rintro e w1 ⟨rfl, hB⟩; have HB : Hid (Below w.heap.size w w1) := Lib.hid (HB.out.trans (hB.mono HB.out.size)); clear hB)
            | (go_at_call 15; with_reducible refine (ko_z _).mono ?_; rintro e w1 ⟨rfl, hB⟩; have HB : Hid (Below w.heap.size w w1) := Lib.hid (HB.out.trans (hB.mono HB.out.size)); clear hB)
            | (go_at_call 15; with_reducible refine (ko_o _).mono ?_; rintro e w1 ⟨rfl, hB⟩; have HB : Hid (Below w.heap.size w w1) := Lib.hid (HB.out.trans (hB.mono HB.out.size)); clear hB)
            | (go_at_call 15; with_reducible refine (ko_c _).mono ?_; rintro e w1 ⟨rfl, hB⟩; have HB : Hid (Below w.heap.size w w1) := Lib.hid (HB.out.trans (hB.mono HB.out.size)); clear hB)
            | (go_at_call 20; with_reducible refine (kp_l _ (HV.out.below HB.out (Nat.le_refl _))).mono ?_; rintro e w1 ⟨rfl, hB⟩; have HB : Hid (Below w.heap.size w w1) := Lib.hid (HB.out.trans (hB.mono HB.out.size)); clear hB)
            | (go_at_call 20; with_reducible refine (kp_u _ (HV.out.below HB.out (Nat.le_refl _))).mono ?_; rintro e w1 ⟨rfl, hB⟩; have HB : Hid (Below w.heap.size w w1) := Lib.hid (HB.out.trans (hB.mono HB.out.size)); clear hB))
          go_ret
          exact ⟨rfl, HB.out⟩
    · go_simp
      refine hKx.out _ _ ?_ (fun hHeld2 => ?_)
      · (try dsimp only); exact ⟨str_row [97, 193, 208, 67, 48] _ (by (focus (repeat (first | exact Row.new _ _ _ _ _ (by first | rfl | simp) rfl | refine Row.old ?_ | refine Row.drew ?_ | assumption | refine Row.keep (by assumption) ?_)))) rfl (by decide), by (focus (repeat (first | exact Row.new _ _ _ _ _ (by first | rfl | simp) rfl | refine Row.old ?_ | refine Row.drew ?_ | assumption | refine Row.keep (by assumption) ?_)))⟩
      clear hHeld1 hKx Kx
      try simp only [Act.put, List.getElem_toArray, List.getElem_cons_zero, List.getElem_cons_succ, List.setIfInBounds_toArray, List.set_cons_zero, List.set_cons_succ]
      refine wpAnyH_ready (rs := [1, 4]) (by kernel_rfl) (by simp) ?_
      refine (AllReadyH.cons rfl (fun Kx hKx => ?_) (AllReadyH.cons rfl (fun Kx hKx => ?_) AllReadyH.nil))
      · go_simp
        with_reducible refine (upon5 (w0 := w) ?_ ?_ ?_ ?_)
        (focus (repeat (first | exact Row.new _ _ _ _ _ (by first | rfl | simp) rfl | refine Row.old ?_ | refine Row.drew ?_ | assumption | refine Row.keep (by assumption) ?_)))
        (focus (repeat (first | exact HB.out | refine bal ?_ | refine Below.drew ?_)))
        (focus (first | omega | (simp; omega)))
        intro Y hB hK
        have HB : Hid (Below w.heap.size w Y) := Lib.hid hB
        have hsz : w.heap.size ≤ Y.heap.size := hB.size
        clear hB
        go_wp2_with fail
        refine hKx.out _ _ ?_ (fun hHeld3 => ?_)
        · (try dsimp only); exact ⟨str_row [97, 193, 208, 67, 48] _ (by (focus (repeat (first | exact Row.new _ _ _ _ _ (by first | rfl | simp) rfl | refine Row.old ?_ | refine Row.drew ?_ | assumption | refine Row.keep (by assumption) ?_)))) rfl (by decide), by (focus (repeat (first | exact Row.new _ _ _ _ _ (by first | rfl | simp) rfl | refine Row.old ?_ | refine Row.drew ?_ | assumption | refine Row.keep (by assumption) ?_)))⟩
        clear hHeld2 hKx Kx
        try simp only [Act.put, List.getElem_toArray, List.getElem_cons_zero, List.getElem_cons_succ, List.setIfInBounds_toArray, List.set_cons_zero, List.set_cons_succ]
        refine wpAnyH_ready (rs := [2, 4]) (by kernel_rfl) (by simp) ?_
        refine (AllReadyH.cons rfl (fun Kx hKx => ?_) (AllReadyH.cons rfl (fun Kx hKx => ?_) AllReadyH.nil))
        · go_simp
          go_at_call 9
          refine (cs1 _ _ ?_).mono ?_
          (focus (repeat (first | exact Row.new _ _ _ _ _ (by first | rfl | simp) rfl | refine Row.old ?_ | refine Row.drew ?_ | assumption | refine Row.keep (by assumption) ?_)))
          rintro e w1 ⟨he, hB⟩
          obtain ⟨M, hM⟩ : ∃ M, M = sum [49, 50, 51, 52, 53] := ⟨_, rfl⟩
          rw [← hM] at he
          subst he
          have HM := Lib.hid hM
          clear hM
          have hB0 : Below w.heap.size w w1 := Below.trans (by (focus (repeat (first | exact HB.out | refine bal ?_ | refine Below.drew ?_)))) (hB.mono (Below.size (by (focus (repeat (first | exact HB.out | refine bal ?_ | refine Below.drew ?_))))))
          have hK1 := Keeps.below hB
          have HB : Hid (Below w.heap.size w w1) := Lib.hid hB0
          have hsz : w.heap.size ≤ w1.heap.size := hB0.size
          clear hB hB0
          go_wp2_with fail
          refine hKx.out _ _ ?_ (fun hHeld4 => ?_)
          · (try dsimp only); exact ⟨str_row [97, 193, 208, 67, 48] _ (by (focus (repeat (first | exact Row.new _ _ _ _ _ (by first | rfl | simp) rfl | refine Row.old ?_ | refine Row.drew ?_ | assumption | refine Row.keep (by assumption) ?_)))) rfl (by decide), by (focus (repeat (first | exact Row.new _ _ _ _ _ (by first | rfl | simp) rfl | refine Row.old ?_ | refine Row.drew ?_ | assumption | refine Row.keep (by assumption) ?_)))⟩
          clear hHeld3 hKx Kx
          try simp only [Act.put, List.getElem_toArray, List.getElem_cons_zero, List.getElem_cons_succ, List.setIfInBounds_toArray, List.set_cons_zero, List.set_cons_succ]
          refine wpAnyH_ready (rs := [4]) (by kernel_rfl) (by simp) ?_
          refine (AllReadyH.cons rfl (fun Kx hKx => ?_) AllReadyH.nil)
          go_simp
          with_reducible refine (upon4 (w0 := w) ?_ ?_ ?_ ?_)
          (focus (repeat (first | exact Row.new _ _ _ _ _ (by first | rfl | simp) rfl | refine Row.old ?_ | refine Row.drew ?_ | assumption | refine Row.keep (by assumption) ?_)))
          (focus (repeat (first | exact HB.out | refine bal ?_ | refine Below.drew ?_)))
          (focus (first | omega | (simp; omega)))
          intro Y hB hK
          have HB : Hid (Below w.heap.size w Y) := Lib.hid hB
          have hsz : w.heap.size ≤ Y.heap.size := hB.size
          clear hB
          go_wp2_with fail
          refine hKx.out _ _ ?_ (fun hHeld5 => ?_)
          · (try dsimp only); exact ⟨str_row [97, 193, 208, 67, 48] _ (by (focus (repeat (first | exact Row.new _ _ _ _ _ (by first | rfl | simp) rfl | refine Row.old ?_ | refine Row.drew ?_ | assumption | refine Row.keep (by assumption) ?_)))) rfl (by decide), by (focus (repeat (first | exact Row.new _ _ _ _ _ (by first | rfl | simp) rfl | refine Row.old ?_ | refine Row.drew ?_ | assumption | refine Row.keep (by assumption) ?_)))⟩
          clear hHeld4 hKx Kx
          try simp only [Act.put, List.getElem_toArray, List.getElem_cons_zero, List.getElem_cons_succ, List.setIfInBounds_toArray, List.set_cons_zero, List.set_cons_succ]
          refine wpAnyH_ready (rs := [5]) (by kernel_rfl) (by simp) ?_
          refine (AllReadyH.cons rfl (fun Kx hKx => ?_) AllReadyH.nil)
          go_simp
          go_at_call 11
          refine (cu1 _ M HM.out _ ?_).mono ?_
          (focus (repeat (first | exact Row.new _ _ _ _ _ (by first | rfl | simp) rfl | refine Row.old ?_ | refine Row.drew ?_ | assumption | refine Row.keep (by assumption) ?_)))
          rintro e w1 ⟨⟨N, rfl, hN, hT⟩, hB⟩
          have hB0 : Below w.heap.size w w1 := Below.trans (by (focus (repeat (first | exact HB.out | refine bal ?_ | refine Below.drew ?_)))) (hB.mono (Below.size (by (focus (repeat (first | exact HB.out | refine bal ?_ | refine Below.drew ?_))))))
          have hK1 := Keeps.below hB
          have HB : Hid (Below w.heap.size w w1) := Lib.hid hB0
          have hsz : w.heap.size ≤ w1.heap.size := hB0.size
          clear hB hB0
          go_wp2_with fail
          refine hKx.out _ _ ?_ (fun hHeld6 => ?_)
          · (try dsimp only); exact ⟨str_row [97, 193, 208, 67, 48] _ (by (focus (repeat (first | exact Row.new _ _ _ _ _ (by first | rfl | simp) rfl | refine Row.old ?_ | refine Row.drew ?_ | assumption | refine Row.keep (by assumption) ?_)))) rfl (by decide), by (focus (repeat (first | exact Row.new _ _ _ _ _ (by first | rfl | simp) rfl | refine Row.old ?_ | refine Row.drew ?_ | assumption | refine Row.keep (by assumption) ?_)))⟩
          clear hHeld5 hKx Kx
          try simp only [Act.put, List.getElem_toArray, List.getElem_cons_zero, List.getElem_cons_succ, List.setIfInBounds_toArray, List.set_cons_zero, List.set_cons_succ]
          refine wpAnyH_ready (rs := [6]) (by kernel_rfl) (by simp) ?_
          refine (AllReadyH.cons rfl (fun Kx hKx => ?_) AllReadyH.nil)
          go_simp
          go_at_call 17
          with_reducible refine (text_any _ hN _ (HV.out.below HB.out (Nat.le_refl _)).bruijn).mono ?_
          rintro e w1 ⟨he, hB⟩
          rw [hT] at he
          subst he
          have hB0 : Below w.heap.size w w1 := Below.trans (by (focus (repeat (first | exact HB.out | refine bal ?_ | refine Below.drew ?_)))) (hB.mono (Below.size (by (focus (repeat (first | exact HB.out | refine bal ?_ | refine Below.drew ?_))))))
          have hK1 := Keeps.below hB
          have HB : Hid (Below w.heap.size w w1) := Lib.hid hB0
          have hsz : w.heap.size ≤ w1.heap.size := hB0.size
          clear hB hB0
          go_wp2_with fail
          refine hKx.out _ _ ?_ (fun hHeld7 => ?_)
          · (try dsimp only); exact ⟨str_row [97, 193, 208, 67, 48] _ (by (focus (repeat (first | exact Row.new _ _ _ _ _ (by first | rfl | simp) rfl | refine Row.old ?_ | refine Row.drew ?_ | assumption | refine Row.keep (by assumption) ?_)))) rfl (by decide), by (focus (repeat (first | exact Row.new _ _ _ _ _ (by first | rfl | simp) rfl | refine Row.old ?_ | refine Row.drew ?_ | assumption | refine Row.keep (by assumption) ?_)))⟩
          clear hHeld6 hKx Kx
          try simp only [Act.put, List.getElem_toArray, List.getElem_cons_zero, List.getElem_cons_succ, List.setIfInBounds_toArray, List.set_cons_zero, List.set_cons_succ]
          refine wpAnyH_take (i := 7) (v := ?_) rfl (by kernel_rfl) (by kernel_rfl) (by kernel_rfl) (fun _ _ _ h => h) (Or.inl ⟨by rfl, ?_⟩) (by assumption) ?_
          rotate_left
          · intro w hSw; (try dsimp only at hSw); go_simp; with_reducible rfl
          try simp only [Act.put, List.getElem_toArray, List.getElem_cons_zero, List.getElem_cons_succ, List.setIfInBounds_toArray, List.set_cons_zero, List.set_cons_succ]
          refine wpAnyH_take (i := 8) (v := ?_) rfl (by kernel_rfl) (by kernel_rfl) (by kernel_rfl) (fun _ _ _ h => h) (Or.inl ⟨by rfl, ?_⟩) (by assumption) ?_
          rotate_left
          · intro w hSw; (try dsimp only at hSw); go_simp; with_reducible rfl
          try simp only [Act.put, List.getElem_toArray, List.getElem_cons_zero, List.getElem_cons_succ, List.setIfInBounds_toArray, List.set_cons_zero, List.set_cons_succ]
          refine wpAnyH_take (i := 13) (v := ?_) rfl (by kernel_rfl) (by kernel_rfl) (by kernel_rfl) (fun _ _ _ h => h) (Or.inl ⟨by rfl, ?_⟩) (by assumption) ?_
          rotate_left
          · intro w hSw; (try dsimp only at hSw); go_simp; with_reducible rfl
          try simp only [Act.put, List.getElem_toArray, List.getElem_cons_zero, List.getElem_cons_succ, List.setIfInBounds_toArray, List.set_cons_zero, List.set_cons_succ]
          refine wpAnyH_take (i := 14) (v := ?_) rfl (by kernel_rfl) (by kernel_rfl) (by kernel_rfl) (fun _ _ _ h => h) (Or.inl ⟨by rfl, ?_⟩) (by assumption) ?_
          rotate_left
          · intro w hSw; (try dsimp only at hSw); go_simp; with_reducible rfl
          try simp only [Act.put, List.getElem_toArray, List.getElem_cons_zero, List.getElem_cons_succ, List.setIfInBounds_toArray, List.set_cons_zero, List.set_cons_succ]
          refine wpAnyH_ready (rs := [9]) (by kernel_rfl) (by simp) ?_
          refine (AllReadyH.cons rfl (fun Kx hKx => ?_) AllReadyH.nil)
          go_simp
          refine hKx.out _ _ ?_ (fun hHeld8 => ?_)
          · (try dsimp only); exact ⟨str_row [97, 193, 208, 67, 48] _ (by (focus (repeat (first | exact Row.new _ _ _ _ _ (by first | rfl | simp) rfl | refine Row.old ?_ | refine Row.drew ?_ | assumption | refine Row.keep (by assumption) ?_)))) rfl (by decide), by (focus (repeat (first | exact Row.new _ _ _ _ _ (by first | rfl | simp) rfl | refine Row.old ?_ | refine Row.drew ?_ | assumption | refine Row.keep (by assumption) ?_)))⟩
          clear hHeld7 hKx Kx
          try simp only [Act.put, List.getElem_toArray, List.getElem_cons_zero, List.getElem_cons_succ, List.setIfInBounds_toArray, List.set_cons_zero, List.set_cons_succ]
          refine wpAnyH_ready (rs := [10]) (by kernel_rfl) (by simp) ?_
          refine (AllReadyH.cons rfl (fun Kx hKx => ?_) AllReadyH.nil)
          go_simp
          with_reducible refine (upon1 (w0 := w) ?_ ?_ ?_ ?_)
          (focus (repeat (first | exact Row.new _ _ _ _ _ (by first | rfl | simp) rfl | refine Row.old ?_ | refine Row.drew ?_ | assumption | refine Row.keep (by assumption) ?_)))
          (focus (repeat (first | exact HB.out | refine bal ?_ | refine Below.drew ?_)))
          (focus (first | omega | (simp; omega)))
          intro Y hB hK
          have HB : Hid (Below w.heap.size w Y) := Lib.hid hB
          have hsz : w.heap.size ≤ Y.heap.size := hB.size
          clear hB
          go_wp2_with fail
          refine hKx.out _ _ ?_ (fun hHeld9 => ?_)
          · (try dsimp only); exact ⟨str_row [97, 193, 208, 67, 48] _ (by (focus (repeat (first | exact Row.new _ _ _ _ _ (by first | rfl | simp) rfl | refine Row.old ?_ | refine Row.drew ?_ | assumption | refine Row.keep (by assumption) ?_)))) rfl (by decide), by (focus (repeat (first | exact Row.new _ _ _ _ _ (by first | rfl | simp) rfl | refine Row.old ?_ | refine Row.drew ?_ | assumption | refine Row.keep (by assumption) ?_)))⟩
          clear hHeld8 hKx Kx
          try simp only [Act.put, List.getElem_toArray, List.getElem_cons_zero, List.getElem_cons_succ, List.setIfInBounds_toArray, List.set_cons_zero, List.set_cons_succ]
          refine wpAnyH_ready (rs := [11]) (by kernel_rfl) (by simp) ?_
          refine (AllReadyH.cons rfl (fun Kx hKx => ?_) AllReadyH.nil)
          go_simp
          go_at_call 13
          refine (ca1 _ _ ?_).mono ?_
          (focus (repeat (first | exact Row.new _ _ _ _ _ (by first | rfl | simp) rfl | refine Row.old ?_ | refine Row.drew ?_ | assumption | refine Row.keep (by assumption) ?_)))
          rintro e w1 ⟨⟨v, rfl, hcv⟩, hB⟩
          have hB0 : Below w.heap.size w w1 := Below.trans (by (focus (repeat (first | exact HB.out | refine bal ?_ | refine Below.drew ?_)))) (hB.mono (Below.size (by (focus (repeat (first | exact HB.out | refine bal ?_ | refine Below.drew ?_))))))
          have hK1 := Keeps.below hB
          have HB : Hid (Below w.heap.size w w1) := Lib.hid hB0
          have hsz : w.heap.size ≤ w1.heap.size := hB0.size
          clear hB hB0
          go_wp2_with fail
          refine hKx.out _ _ ?_ (fun hHeld10 => ?_)
          · (try dsimp only); exact ⟨str_row [97, 193, 208, 67, 48] _ (by (focus (repeat (first | exact Row.new _ _ _ _ _ (by first | rfl | simp) rfl | refine Row.old ?_ | refine Row.drew ?_ | assumption | refine Row.keep (by assumption) ?_)))) rfl (by decide), by (focus (repeat (first | exact Row.new _ _ _ _ _ (by first | rfl | simp) rfl | refine Row.old ?_ | refine Row.drew ?_ | assumption | refine Row.keep (by assumption) ?_)))⟩
          clear hHeld9 hKx Kx
          try simp only [Act.put, List.getElem_toArray, List.getElem_cons_zero, List.getElem_cons_succ, List.setIfInBounds_toArray, List.set_cons_zero, List.set_cons_succ]
          refine wpAnyH_ready (rs := [12]) (by kernel_rfl) (by simp) ?_
          refine (AllReadyH.cons rfl (fun Kx hKx => ?_) AllReadyH.nil)
          go_simp
          refine hKx.out _ _ ?_ (fun hHeld11 => ?_)
          · (try dsimp only); exact ⟨str_row [97, 193, 208, 67, 48] _ (by (focus (repeat (first | exact Row.new _ _ _ _ _ (by first | rfl | simp) rfl | refine Row.old ?_ | refine Row.drew ?_ | assumption | refine Row.keep (by assumption) ?_)))) rfl (by decide), by (focus (repeat (first | exact Row.new _ _ _ _ _ (by first | rfl | simp) rfl | refine Row.old ?_ | refine Row.drew ?_ | assumption | refine Row.keep (by assumption) ?_)))⟩
          clear hHeld10 hKx Kx
          try simp only [Act.put, List.getElem_toArray, List.getElem_cons_zero, List.getElem_cons_succ, List.setIfInBounds_toArray, List.set_cons_zero, List.set_cons_succ]
          refine wpAnyH_take (i := 15) (v := ?_) rfl (by kernel_rfl) (by kernel_rfl) (by kernel_rfl) (fun _ _ _ h => h) (Or.inl ⟨by rfl, ?_⟩) (by assumption) ?_
          rotate_left
          · intro w hSw; (try dsimp only at hSw); go_simp; with_reducible rfl
          try simp only [Act.put, List.getElem_toArray, List.getElem_cons_zero, List.getElem_cons_succ, List.setIfInBounds_toArray, List.set_cons_zero, List.set_cons_succ]
          refine wpAnyH_take (i := 16) (v := ?_) rfl (by kernel_rfl) (by kernel_rfl) (by kernel_rfl) (fun _ _ _ h => h) (Or.inl ⟨by rfl, ?_⟩) (by assumption) ?_
          rotate_left
          · intro w hSw; (try dsimp only at hSw); go_simp; with_reducible rfl
          try simp only [Act.put, List.getElem_toArray, List.getElem_cons_zero, List.getElem_cons_succ, List.setIfInBounds_toArray, List.set_cons_zero, List.set_cons_succ]
          refine wpAnyH_take (i := 17) (v := ?_) rfl (by kernel_rfl) (by kernel_rfl) (by kernel_rfl) (fun _ _ _ h => h) (Or.inl ⟨by rfl, ?_⟩) (by assumption) ?_
          rotate_left
          · intro w hSw; (try dsimp only at hSw); go_simp; with_reducible rfl
          try simp only [Act.put, List.getElem_toArray, List.getElem_cons_zero, List.getElem_cons_succ, List.setIfInBounds_toArray, List.set_cons_zero, List.set_cons_succ]
          refine wpAnyH_take (i := 18) (v := ?_) rfl (by kernel_rfl) (by kernel_rfl) (by kernel_rfl) (fun _ _ _ h => h) (Or.inl ⟨by rfl, ?_⟩) (by assumption) ?_
          rotate_left
          · intro w hSw; (try dsimp only at hSw); go_simp; with_reducible rfl
          try simp only [Act.put, List.getElem_toArray, List.getElem_cons_zero, List.getElem_cons_succ, List.setIfInBounds_toArray, List.set_cons_zero, List.set_cons_succ]
          refine wpAnyH_ready (rs := [19]) (by kernel_rfl) (by simp) ?_
          refine (AllReadyH.cons rfl (fun Kx hKx => ?_) AllReadyH.nil)
          go_simp
          refine hKx.out _ _ ?_ (fun hHeld12 => ?_)
          · (try dsimp only); exact ⟨str_row [97, 193, 208, 67, 48] _ (by (focus (repeat (first | exact Row.new _ _ _ _ _ (by first | rfl | simp) rfl | refine Row.old ?_ | refine Row.drew ?_ | assumption | refine Row.keep (by assumption) ?_)))) rfl (by decide), by (focus (repeat (first | exact Row.new _ _ _ _ _ (by first | rfl | simp) rfl | refine Row.old ?_ | refine Row.drew ?_ | assumption | refine Row.keep (by assumption) ?_)))⟩
          clear hHeld11 hKx Kx
          try simp only [Act.put, List.getElem_toArray, List.getElem_cons_zero, List.getElem_cons_succ, List.setIfInBounds_toArray, List.set_cons_zero, List.set_cons_succ]
          refine wpAnyH_ready (rs := [20]) (by kernel_rfl) (by simp) ?_
          refine (AllReadyH.cons rfl (fun Kx hKx => ?_) AllReadyH.nil)
          go_simp
          go_at_call 15
          refine (co1 _ _ _ ?_ ?_).mono ?_
          (focus (repeat (first | exact Row.new _ _ _ _ _ (by first | rfl | simp) rfl | refine Row.old ?_ | refine Row.drew ?_ | assumption | refine Row.keep (by assumption) ?_)))
          (focus (repeat (first | exact Row.new _ _ _ _ _ (by first | rfl | simp) rfl | refine Row.old ?_ | refine Row.drew ?_ | assumption | refine Row.keep (by assumption) ?_)))
          rintro e w1 ⟨rfl, hB⟩
          have hB0 : Below w.heap.size w w1 := Below.trans (by (focus (repeat (first | exact HB.out | refine bal ?_ | refine Below.drew ?_)))) (hB.mono (Below.size (by (focus (repeat (first | exact HB.out | refine bal ?_ | refine Below.drew ?_))))))
          have hK1 := Keeps.below hB
          have HB : Hid (Below w.heap.size w w1) := Lib.hid hB0
          have hsz : w.heap.size ≤ w1.heap.size := hB0.size
          clear hB hB0
          go_wp2_with fail
          refine hKx.out _ _ ?_ (fun hHeld13 => ?_)
          · (try dsimp only); exact ⟨str_row [97, 193, 208, 67, 48] _ (by (focus (repeat (first | exact Row.new _ _ _ _ _ (by first | rfl | simp) rfl | refine Row.old ?_ | refine Row.drew ?_ | assumption | refine Row.keep (by assumption) ?_)))) rfl (by decide), by (focus (repeat (first | exact Row.new _ _ _ _ _ (by first | rfl | simp) rfl | refine Row.old ?_ | refine Row.drew ?_ | assumption | refine Row.keep (by assumption) ?_)))⟩
          clear hHeld12 hKx Kx
          try simp only [Act.put, List.getElem_toArray, List.getElem_cons_zero, List.getElem_cons_succ, List.setIfInBounds_toArray, List.set_cons_zero, List.set_cons_succ]
          refine wpAnyH_take (i := 21) (v := ?_) rfl (by kernel_rfl) (by kernel_rfl) (by kernel_rfl) (fun _ _ _ h => h) (Or.inl ⟨by rfl, ?_⟩) (by assumption) ?_
          rotate_left
          · intro w hSw; (try dsimp only at hSw); go_simp; with_reducible rfl
          try simp only [Act.put, List.getElem_toArray, List.getElem_cons_zero, List.getElem_cons_succ, List.setIfInBounds_toArray, List.set_cons_zero, List.set_cons_succ]
          refine wpAnyH_take (i := 22) (v := ?_) rfl (by kernel_rfl) (by kernel_rfl) (by kernel_rfl) (fun _ _ _ h => h) (Or.inl ⟨by rfl, ?_⟩) (by assumption) ?_
          rotate_left
          · intro w hSw; (try dsimp only at hSw); go_simp; with_reducible rfl
          try simp only [Act.put, List.getElem_toArray, List.getElem_cons_zero, List.getElem_cons_succ, List.setIfInBounds_toArray, List.set_cons_zero, List.set_cons_succ]
          refine wpAnyH_done (by kernel_rfl) ?_ _
          refine NoPanic.normal ?_
          go_wp2_with (first
            | (go_at_call 15; with_reducible refine (ko_nil _).mono ?_; rintro e w1 ⟨rfl, hB⟩; have HB : Hid (Below w.heap.size w w1) := Lib.hid (HB.out.trans (hB.mono HB.out.size)); clear hB)
            | (go_at_call 15; with_reducible refine (ko_z _).mono ?_; rintro e w1 ⟨rfl, hB⟩; have HB : Hid (Below w.heap.size w w1) := Lib.hid (HB.out.trans (hB.mono HB.out.size)); clear hB)
            | (go_at_call 15; with_reducible refine (ko_o _).mono ?_; rintro e w1 ⟨rfl, hB⟩; have HB : Hid (Below w.heap.size w w1) := Lib.hid (HB.out.trans (hB.mono HB.out.size)); clear hB)
            | (go_at_call 15; with_reducible refine (ko_c _).mono ?_; rintro e w1 ⟨rfl, hB⟩; have HB : Hid (Below w.heap.size w w1) := Lib.hid (HB.out.trans (hB.mono HB.out.size)); clear hB)
            | (go_at_call 20; with_reducible refine (kp_l _ (HV.out.below HB.out (Nat.le_refl _))).mono ?_; rintro e w1 ⟨rfl, hB⟩; have HB : Hid (Below w.heap.size w w1) := Lib.hid (HB.out.trans (hB.mono HB.out.size)); clear hB)
            | (go_at_call 20; with_reducible refine (kp_u _ (HV.out.below HB.out (Nat.le_refl _))).mono ?_; rintro e w1 ⟨rfl, hB⟩; have HB : Hid (Below w.heap.size w w1) := Lib.hid (HB.out.trans (hB.mono HB.out.size)); clear hB))
          go_ret
          exact ⟨rfl, HB.out⟩
        · go_simp
          with_reducible refine (upon4 (w0 := w) ?_ ?_ ?_ ?_)
          (focus (repeat (first | exact Row.new _ _ _ _ _ (by first | rfl | simp) rfl | refine Row.old ?_ | refine Row.drew ?_ | assumption | refine Row.keep (by assumption) ?_)))
          (focus (repeat (first | exact HB.out | refine bal ?_ | refine Below.drew ?_)))
          (focus (first | omega | (simp; omega)))
          intro Y hB hK
          have HB : Hid (Below w.heap.size w Y) := Lib.hid hB
          have hsz : w.heap.size ≤ Y.heap.size := hB.size
          clear hB
          go_wp2_with fail
          refine hKx.out _ _ ?_ (fun hHeld4 => ?_)
          · (try dsimp only); exact ⟨str_row [97, 193, 208, 67, 48] _ (by (focus (repeat (first | exact Row.new _ _ _ _ _ (by first | rfl | simp) rfl | refine Row.old ?_ | refine Row.drew ?_ | assumption | refine Row.keep (by assumption) ?_)))) rfl (by decide), by (focus (repeat (first | exact Row.new _ _ _ _ _ (by first | rfl | simp) rfl | refine Row.old ?_ | refine Row.drew ?_ | assumption | refine Row.keep (by assumption) ?_)))⟩
          clear hHeld3 hKx Kx
          try simp only [Act.put, List.getElem_toArray, List.getElem_cons_zero, List.getElem_cons_succ, List.setIfInBounds_toArray, List.set_cons_zero, List.set_cons_succ]
          refine wpAnyH_ready (rs := [2]) (by kernel_rfl) (by simp) ?_
          refine (AllReadyH.cons rfl (fun Kx hKx => ?_) AllReadyH.nil)
          go_simp
          go_at_call 9
          refine (cs1 _ _ ?_).mono ?_
          (focus (repeat (first | exact Row.new _ _ _ _ _ (by first | rfl | simp) rfl | refine Row.old ?_ | refine Row.drew ?_ | assumption | refine Row.keep (by assumption) ?_)))
          rintro e w1 ⟨he, hB⟩
          obtain ⟨M, hM⟩ : ∃ M, M = sum [49, 50, 51, 52, 53] := ⟨_, rfl⟩
          rw [← hM] at he
          subst he
          have HM := Lib.hid hM
          clear hM
          have hB0 : Below w.heap.size w w1 := Below.trans (by (focus (repeat (first | exact HB.out | refine bal ?_ | refine Below.drew ?_)))) (hB.mono (Below.size (by (focus (repeat (first | exact HB.out | refine bal ?_ | refine Below.drew ?_))))))
          have hK1 := Keeps.below hB
          have HB : Hid (Below w.heap.size w w1) := Lib.hid hB0
          have hsz : w.heap.size ≤ w1.heap.size := hB0.size
          clear hB hB0
          go_wp2_with fail
          refine hKx.out _ _ ?_ (fun hHeld5 => ?_)
          · (try dsimp only); exact ⟨str_row [97, 193, 208, 67, 48] _ (by (focus (repeat (first | exact Row.new _ _ _ _ _ (by first | rfl | simp) rfl | refine Row.old ?_ | refine Row.drew ?_ | assumption | refine Row.keep (by assumption) ?_)))) rfl (by decide), by (focus (repeat (first | exact Row.new _ _ _ _ _ (by first | rfl | simp) rfl | refine Row.old ?_ | refine Row.drew ?_ | assumption | refine Row.keep (by assumption) ?_)))⟩
          clear hHeld4 hKx Kx
          try simp only [Act.put, List.getElem_toArray, List.getElem_cons_zero, List.getElem_cons_succ, List.setIfInBounds_toArray, List.set_cons_zero, List.set_cons_succ]
          refine wpAnyH_ready (rs := [5]) (by kernel_rfl) (by simp) ?_
          refine (AllReadyH.cons rfl (fun Kx hKx => ?_) AllReadyH.nil)
          go_simp
          go_at_call 11
          refine (cu1 _ M HM.out _ ?_).mono ?_
          (focus (repeat (first | exact Row.new _ _ _ _ _ (by first | rfl | simp) rfl | refine Row.old ?_ | refine Row.drew ?_ | assumption | refine Row.keep (by assumption) ?_)))
          rintro e w1 ⟨⟨N, rfl, hN, hT⟩, hB⟩
          have hB0 : Below w.heap.size w w1 := Below.trans (by (focus (repeat (first | exact HB.out | refine bal ?_ | refine Below.drew ?_)))) (hB.mono (Below.size (by (focus (repeat (first | exact HB.out | refine bal ?_ | refine Below.drew ?_))))))
          have hK1 := Keeps.below hB
          have HB : Hid (Below w.heap.size w w1) := Lib.hid hB0
          have hsz : w.heap.size ≤ w1.heap.size := hB0.size
          clear hB hB0
          go_wp2_with fail
          refine hKx.out _ _ ?_ (fun hHeld6 => ?_)
          · (try dsimp only); exact ⟨str_row [97, 193, 208, 67, 48] _ (by (focus (repeat (first | exact Row.new _ _ _ _ _ (by first | rfl | simp) rfl | refine Row.old ?_ | refine Row.drew ?_ | assumption | refine Row.keep (by assumption) ?_)))) rfl (by decide), by (focus (repeat (first | exact Row.new _ _ _ _ _ (by first | rfl | simp) rfl | refine Row.old ?_ | refine Row.drew ?_ | assumption | refine Row.keep (by assumption) ?_)))⟩
          clear hHeld5 hKx Kx
          try simp only [Act.put, List.getElem_toArray, List.getElem_cons_zero, List.getElem_cons_succ, List.setIfInBounds_toArray, List.set_cons_zero, List.set_cons_succ]
          refine wpAnyH_ready (rs := [6]) (by kernel_rfl) (by simp) ?_
          refine (AllReadyH.cons rfl (fun Kx hKx => ?_) AllReadyH.nil)
          go_simp
          go_at_call 17
          with_reducible refine (text_any _ hN _ (HV.out.below HB.out (Nat.le_refl _)).bruijn).mono ?_
          rintro e w1 ⟨he, hB⟩
          rw [hT] at he
          subst he
          have hB0 : Below w.heap.size w w1 := Below.trans (by (focus (repeat (first | exact HB.out | refine bal ?_ | refine Below.drew ?_)))) (hB.mono (Below.size (by (focus (repeat (first | exact HB.out | refine bal ?_ | refine Below.drew ?_))))))
          have hK1 := Keeps.below hB
          have HB : Hid (Below w.heap.size w w1) := Lib.hid hB0
          have hsz : w.heap.size ≤ w1.heap.size := hB0.size
          clear hB hB0
          go_wp2_with fail
          refine hKx.out _ _ ?_ (fun hHeld7 => ?_)
          · (try dsimp only); exact ⟨str_row [97, 193, 208, 67, 48] _ (by (focus (repeat (first | exact Row.new _ _ _ _ _ (by first | rfl | simp) rfl | refine Row.old ?_ | refine Row.drew ?_ | assumption | refine Row.keep (by assumption) ?_)))) rfl (by decide), by (focus (repeat (first | exact Row.new _ _ _ _ _ (by first | rfl | simp) rfl | refine Row.old ?_ | refine Row.drew ?_ | assumption | refine Row.keep (by assumption) ?_)))⟩
          clear hHeld6 hKx Kx
          try simp only [Act.put, List.getElem_toArray, List.getElem_cons_zero, List.getElem_cons_succ, List.setIfInBounds_toArray, List.set_cons_zero, List.set_cons_succ]
          refine wpAnyH_take (i := 7) (v := ?_) rfl (by kernel_rfl) (by kernel_rfl) (by kernel_rfl) (fun _ _ _ h => h) (Or.inl ⟨by rfl, ?_⟩) (by assumption) ?_
          rotate_left
          · intro w hSw; (try dsimp only at hSw); go_simp; with_reducible rfl
          try simp only [Act.put, List.getElem_toArray, List.getElem_cons_zero, List.getElem_cons_succ, List.setIfInBounds_toArray, List.set_cons_zero, List.set_cons_succ]
          refine wpAnyH_take (i := 8) (v := ?_) rfl (by kernel_rfl) (by kernel_rfl) (by kernel_rfl) (fun _ _ _ h => h) (Or.inl ⟨by rfl, ?_⟩) (by assumption) ?_
          rotate_left
          · intro w hSw; (try dsimp only at hSw); go_simp; with_reducible rfl
          try simp only [Act.put, List.getElem_toArray, List.getElem_cons_zero, List.getElem_cons_succ, List.setIfInBounds_toArray, List.set_cons_zero, List.set_cons_succ]
          refine wpAnyH_take (i := 13) (v := ?_) rfl (by kernel_rfl) (by kernel_rfl) (by kernel_rfl) (fun _ _ _ h => h) (Or.inl ⟨by rfl, ?_⟩) (by assumption) ?_
          rotate_left
          · intro w hSw; (try dsimp only at hSw); go_simp; with_reducible rfl
          try simp only [Act.put, List.getElem_toArray, List.getElem_cons_zero, List.getElem_cons_succ, List.setIfInBounds_toArray, List.set_cons_zero, List.set_cons_succ]
          refine wpAnyH_take (i := 14) (v := ?_) rfl (by kernel_rfl) (by kernel_rfl) (by kernel_rfl) (fun _ _ _ h => h) (Or.inl ⟨by rfl, ?_⟩) (by assumption) ?_
          rotate_left
          · intro w hSw; (try dsimp only at hSw); go_simp; with_reducible rfl
          try simp only [Act.put, List.getElem_toArray, List.getElem_cons_zero, List.getElem_cons_succ, List.setIfInBounds_toArray, List.set_cons_zero, List.set_cons_succ]
          refine wpAnyH_ready (rs := [9]) (by kernel_rfl) (by simp) ?_
          refine (AllReadyH.cons rfl (fun Kx hKx => ?_) AllReadyH.nil)
          go_simp
          refine hKx.out _ _ ?_ (fun hHeld8 => ?_)
          · (try dsimp only); exact ⟨str_row [97, 193, 208, 67, 48] _ (by (focus (repeat (first | exact Row.new _ _ _ _ _ (by first | rfl | simp) rfl | refine Row.old ?_ | refine Row.drew ?_ | assumption | refine Row.keep (by assumption) ?_)))) rfl (by decide), by (focus (repeat (first | exact Row.new _ _ _ _ _ (by first | rfl | simp) rfl | refine Row.old ?_ | refine Row.drew ?_ | assumption | refine Row.keep (by assumption) ?_)))⟩
          clear hHeld7 hKx Kx
          try simp only [Act.put, List.getElem_toArray, List.getElem_cons_zero, List.getElem_cons_succ, List.setIfInBounds_toArray, List.set_cons_zero, List.set_cons_succ]
          refine wpAnyH_ready (rs := [10]) (by kernel_rfl) (by simp) ?_
          refine (AllReadyH.cons rfl (fun Kx hKx => ?_) AllReadyH.nil)
          go_simp
          with_reducible refine (upon1 (w0 := w) ?_ ?_ ?_ ?_)
          (focus (repeat (first | exact Row.new _ _ _ _ _ (by first | rfl | simp) rfl | refine Row.old ?_ | refine Row.drew ?_ | assumption | refine Row.keep (by assumption) ?_)))
          (focus (repeat (first | exact HB.out | refine bal ?_ | refine Below.drew ?_)))
          (focus (first | omega | (simp; omega)))
          intro Y hB hK
          have HB : Hid (Below w.heap.size w Y) := Lib.hid hB
          have hsz : w.heap.size ≤ Y.heap.size := hB.size
          clear hB
          go_wp2_with fail
          refine hKx.out _ _ ?_ (fun hHeld9 => ?_)
          · (try dsimp only); exact ⟨str_row [97, 193, 208, 67, 48] _ (by (focus (repeat (first | exact Row.new _ _ _ _ _ (by first | rfl | simp) rfl | refine Row.old ?_ | refine Row.drew ?_ | assumption | refine Row.keep (by assumption) ?_)))) rfl (by decide), by (focus (repeat (first | exact Row.new _ _ _ _ _ (by first | rfl | simp) rfl | refine Row.old ?_ | refine Row.drew ?_ | assumption | refine Row.keep (by assumption) ?_)))⟩
          clear hHeld8 hKx Kx
          try simp only [Act.put, List.getElem_toArray, List.getElem_cons_zero, List.getElem_cons_succ, List.setIfInBounds_toArray, List.set_cons_zero, List.set_cons_succ]
          refine wpAnyH_ready (rs := [11]) (by kernel_rfl) (by simp) ?_
          refine (AllReadyH.cons rfl (fun Kx hKx => ?_) AllReadyH.nil)
          go_simp
          go_at_call 13
          refine (ca1 _ _ ?_).mono ?_
          (focus (repeat (first | exact Row.new _ _ _ _ _ (by first | rfl | simp) rfl | refine Row.old ?_ | refine Row.drew ?_ | assumption | refine Row.keep (by assumption) ?_)))
          rintro e w1 ⟨⟨v, rfl, hcv⟩, hB⟩
          have hB0 : Below w.heap.size w w1 := Below.trans (by (focus (repeat (first | exact HB.out | refine bal ?_ | refine Below.drew ?_)))) (hB.mono (Below.size (by (focus (repeat (first | exact HB.out | refine bal ?_ | refine Below.drew ?_))))))
          have hK1 := Keeps.below hB
          have HB : Hid (Below w.heap.size w w1) := Lib.hid hB0
          have hsz : w.heap.size ≤ w1.heap.size := hB0.size
          clear hB hB0
          go_wp2_with fail
          refine hKx.out _ _ ?_ (fun hHeld10 => ?_)
          · (try dsimp only); exact ⟨str_row [97, 193, 208, 67, 48] _ (by (focus (repeat (first | exact Row.new _ _ _ _ _ (by first | rfl | simp) rfl | refine Row.old ?_ | refine Row.drew ?_ | assumption | refine Row.keep (by assumption) ?_)))) rfl (by decide), by (focus (repeat (first | exact Row.new _ _ _ _ _ (by first | rfl | simp) rfl | refine Row.old ?_ | refine Row.drew ?_ | assumption | refine Row.keep (by assumption) ?_)))⟩
          clear hHeld9 hKx Kx
          try simp only [Act.put, List.getElem_toArray, List.getElem_cons_zero, List.getElem_cons_succ, List.setIfInBounds_toArray, List.set_cons_zero, List.set_cons_succ]
          refine wpAnyH_ready (rs := [12]) (by kernel_rfl) (by simp) ?_
          refine (AllReadyH.cons rfl (fun Kx hKx => ?_) AllReadyH.nil)
          go_simp
          refine hKx.out _ _ ?_ (fun hHeld11 => ?_)
          · (try dsimp only); exact ⟨str_row [97, 193, 208, 67, 48] _ (by (focus (repeat (first | exact Row.new _ _ _ _ _ (by first | rfl | simp) rfl | refine Row.old ?_ | refine Row.drew ?_ | assumption | refine Row.keep (by assumption) ?_)))) rfl (by decide), by (focus (repeat (first | exact Row.new _ _ _ _ _ (by first | rfl | simp) rfl | refine Row.old ?_ | refine Row.drew ?_ | assumption | refine Row.keep (by assumption) ?_)))⟩
          clear hHeld10 hKx Kx
          try simp only [Act.put, List.getElem_toArray, List.getElem_cons_zero, List.getElem_cons_succ, List.setIfInBounds_toArray, List.set_cons_zero, List.set_cons_succ]
          refine wpAnyH_take (i := 15) (v := ?_) rfl (by kernel_rfl) (by kernel_rfl) (by kernel_rfl) (fun _ _ _ h => h) (Or.inl ⟨by rfl, ?_⟩) (by assumption) ?_
          rotate_left
          · intro w hSw; (try dsimp only at hSw); go_simp; with_reducible rfl
          try simp only [Act.put, List.getElem_toArray, List.getElem_cons_zero, List.getElem_cons_succ, List.setIfInBounds_toArray, List.set_cons_zero, List.set_cons_succ]
          refine wpAnyH_take (i := 16) (v := ?_) rfl (by kernel_rfl) (by kernel_rfl) (by kernel_rfl) (fun _ _ _ h => h) (Or.inl ⟨by rfl, ?_⟩) (by assumption) ?_
          rotate_left
          · intro w hSw; (try dsimp only at hSw); go_simp; with_reducible rfl
          try simp only [Act.put, List.getElem_toArray, List.getElem_cons_zero, List.getElem_cons_succ, List.setIfInBounds_toArray, List.set_cons_zero, List.set_cons_succ]
          refine wpAnyH_take (i := 17) (v := ?_) rfl (by kernel_rfl) (by kernel_rfl) (by kernel_rfl) (fun _ _ _ h => h) (Or.inl ⟨by rfl, ?_⟩) (by assumption) ?_
          rotate_left
          · intro w hSw; (try dsimp only at hSw); go_simp; with_reducible rfl
          try simp only [Act.put, List.getElem_toArray, List.getElem_cons_zero, List.getElem_cons_succ, List.setIfInBounds_toArray, List.set_cons_zero, List.set_cons_succ]
          refine wpAnyH_take (i := 18) (v := ?_) rfl (by kernel_rfl) (by kernel_rfl) (by kernel_rfl) (fun _ _ _ h => h) (Or.inl ⟨by rfl, ?_⟩) (by assumption) ?_
          rotate_left
          · intro w hSw; (try dsimp only at hSw); go_simp; with_reducible rfl
          try simp only [Act.put, List.getElem_toArray, List.getElem_cons_zero, List.getElem_cons_succ, List.setIfInBounds_toArray, List.set_cons_zero, List.set_cons_succ]
          refine wpAnyH_ready (rs := [19]) (by kernel_rfl) (by simp) ?_
          refine (AllReadyH.cons rfl (fun Kx hKx => ?_) AllReadyH.nil)
          go_simp
          refine hKx.out _ _ ?_ (fun hHeld12 => ?_)
          · (try dsimp only); exact ⟨str_row [97, 193, 208, 67, 48] _ (by (focus (repeat (first | exact Row.new _ _ _ _ _ (by first | rfl | simp) rfl | refine Row.old ?_ | refine Row.drew ?_ | assumption | refine Row.keep (by assumption) ?_)))) rfl (by decide), by (focus (repeat (first | exact Row.new _ _ _ _ _ (by first | rfl | simp) rfl | refine Row.old ?_ | refine Row.drew ?_ | assumption | refine Row.keep (by assumption) ?_)))⟩
          clear hHeld11 hKx Kx
          try simp only [Act.put, List.getElem_toArray, List.getElem_cons_zero, List.getElem_cons_succ, List.setIfInBounds_toArray, List.set_cons_zero, List.set_cons_succ]
          refine wpAnyH_ready (rs := [20]) (by kernel_rfl) (by simp) ?_
          refine (AllReadyH.cons rfl (fun Kx hKx => ?_) AllReadyH.nil)
          go_simp
          go_at_call 15
          refine (co1 _ _ _ ?_ ?_).mono ?_
          (focus (repeat (first | exact Row.new _ _ _ _ _ (by first | rfl | simp) rfl | refine Row.old ?_ | refine Row.drew ?_ | assumption | refine Row.keep (by assumption) ?_)))
          (focus (repeat (first | exact Row.new _ _ _ _ _ (by first | rfl | simp) rfl | refine Row.old ?_ | refine Row.drew ?_ | assumption | refine Row.keep (by assumption) ?_)))
          rintro e w1 ⟨rfl, hB⟩
          have hB0 : Below w.heap.size w w1 := Below.trans (by (focus (repeat (first | exact HB.out | refine bal ?_ | refine Below.drew ?_)))) (hB.mono (Below.size (by (focus (repeat (first | exact HB.out | refine bal ?_ | refine Below.drew ?_))))))
          have hK1 := Keeps.below hB
          have HB : Hid (Below w.heap.size w w1) := Lib.hid hB0
          have hsz : w.heap.size ≤ w1.heap.size := hB0.size
          clear hB hB0
          go_wp2_with fail
          refine hKx.out _ _ ?_ (fun hHeld13 => ?_)
          · (try dsimp only); exact ⟨str_row [97, 193, 208, 67, 48] _ (by (focus (repeat (first | exact Row.new _ _ _ _ _ (by first | rfl | simp) rfl | refine Row.old ?_ | refine Row.drew ?_ | assumption | refine Row.keep (by assumption) ?_)))) rfl (by decide), by (focus (repeat (first | exact Row.new _ _ _ _ _ (by first | rfl | simp) rfl | refine Row.old ?_ | refine Row.drew ?_ | assumption | refine Row.keep (by assumption) ?_)))⟩
          clear hHeld12 hKx Kx
          try simp only [Act.put, List.getElem_toArray, List.getElem_cons_zero, List.getElem_cons_succ, List.setIfInBounds_toArray, List.set_cons_zero, List.set_cons_succ]
          refine wpAnyH_take (i := 21) (v := ?_) rfl (by kernel_rfl) (by kernel_rfl) (by kernel_rfl) (fun _ _ _ h => h) (Or.inl ⟨by rfl, ?_⟩) (by assumption) ?_
          rotate_left
          · intro w hSw; (try dsimp only at hSw); go_simp; with_reducible rfl
          try simp only [Act.put, List.getElem_toArray, List.getElem_cons_zero, List.getElem_cons_succ, List.setIfInBounds_toArray, List.set_cons_zero, List.set_cons_succ]
          refine wpAnyH_take (i := 22) (v := ?_) rfl (by kernel_rfl) (by kernel_rfl) (by kernel_rfl) (fun _ _ _ h => h) (Or.inl ⟨by rfl, ?_⟩) (by assumption) ?_
          rotate_left
          · intro w hSw; (try dsimp only at hSw); go_simp; with_reducible rfl
          try simp only [Act.put, List.getElem_toArray, List.getElem_cons_zero, List.getElem_cons_succ, List.setIfInBounds_toArray, List.set_cons_zero, List.set_cons_succ]
          refine wpAnyH_done (by kernel_rfl) ?_ _
          refine NoPanic.normal ?_
          go_wp2_with (first
            | (go_at_call 15; with_reducible refine (ko_nil _).mono ?_; rintro e w1 ⟨rfl, hB⟩; have HB : Hid (Below w.heap.size w w1) := Lib.hid (HB.out.trans (hB.mono HB.out.size)); clear hB)
            | (go_at_call 15; with_reducible refine (ko_z _).mono ?_; rintro e w1 ⟨rfl, hB⟩; have HB : Hid (Below w.heap.size w w1) := Lib.hid (HB.out.trans (hB.mono HB.out.size)); clear hB)
            | (go_at_call 15; with_reducible refine (ko_o _).mono ?_; rintro e w1 ⟨rfl, hB⟩; have HB : Hid (Below w.heap.size w w1) := Lib.hid (HB.out.trans (hB.mono HB.out.size)); clear hB)
            | (go_at_call 15; with_reducible refine (ko_c _).mono ?_; rintro e w1 ⟨rfl, hB⟩; have HB : Hid (Below w.heap.size w w1) := Lib.hid (HB.out.trans (hB.mono HB.out.size)); clear hB)
            | (go_at_call 20; with_reducible refine (kp_l _ (HV.out.below HB.out (Nat.le_refl _))).mono ?_; rintro e w1 ⟨rfl, hB⟩; have HB : Hid (Below w.heap.size w w1) := Lib.hid (HB.out.trans (hB.mono HB.out.size)); clear hB)
            | (go_at_call 20; with_reducible refine (kp_u _ (HV.out.below HB.out (Nat.le_refl _))).mono ?_; rintro e w1 ⟨rfl, hB⟩; have HB : Hid (Below w.heap.size w w1) := Lib.hid (HB.out.trans (hB.mono HB.out.size)); clear hB))
          go_ret
          exact ⟨rfl, HB.out⟩
      · go_simp
        with_reducible refine (upon4 (w0 := w) ?_ ?_ ?_ ?_)
        (focus (repeat (first | exact Row.new _ _ _ _ _ (by first | rfl | simp) rfl | refine Row.old ?_ | refine Row.drew ?_ | assumption | refine Row.keep (by assumption) ?_)))
        (focus (repeat (first | exact HB.out | refine bal ?_ | refine Below.drew ?_)))
        (focus (first | omega | (simp; omega)))
        intro Y hB hK
        have HB : Hid (Below w.heap.size w Y) := Lib.hid hB
        have hsz : w.heap.size ≤ Y.heap.size := hB.size
        clear hB
        go_wp2_with fail
        refine hKx.out _ _ ?_ (fun hHeld3 => ?_)
        · (try dsimp only); exact ⟨str_row [97, 193, 208, 67, 48] _ (by (focus (repeat (first | exact Row.new _ _ _ _ _ (by first | rfl | simp) rfl | refine Row.old ?_ | refine Row.drew ?_ | assumption | refine Row.keep (by assumption) ?_)))) rfl (by decide), by (focus (repeat (first | exact Row.new _ _ _ _ _ (by first | rfl | simp) rfl | refine Row.old ?_ | refine Row.drew ?_ | assumption | refine Row.keep (by assumption) ?_)))⟩
        clear hHeld2 hKx Kx
        try simp only [Act.put, List.getElem_toArray, List.getElem_cons_zero, List.getElem_cons_succ, List.setIfInBounds_toArray, List.set_cons_zero, List.set_cons_succ]
        refine wpAnyH_ready (rs := [1]) (by kernel_rfl) (by simp) ?_
        refine (AllReadyH.cons rfl (fun Kx hKx => ?_) AllReadyH.nil)
        go_simp
        with_reducible refine (upon5 (w0 := w) ?_ ?_ ?_ ?_)
        (focus (repeat (first | exact Row.new _ _ _ _ _ (by first | rfl | simp) rfl | refine Row.old ?_ | refine Row.drew ?_ | assumption | refine Row.keep (by assumption) ?_)))
        (focus (repeat (first | exact HB.out | refine bal ?_ | refine Below.drew ?_)))
        (focus (first | omega | (simp; omega)))
        intro Y hB hK
        have HB : Hid (Below w.heap.size w Y) := Lib.hid hB
        have hsz : w.heap.size ≤ Y.heap.size := hB.size
        clear hB
        go_wp2_with fail
        refine hKx.out _ _ ?_ (fun hHeld4 => ?_)
        · (try dsimp only); exact ⟨str_row [97, 193, 208, 67, 48] _ (by (focus (repeat (first | exact Row.new _ _ _ _ _ (by first | rfl | simp) rfl | refine Row.old ?_ | refine Row.drew ?_ | assumption | refine Row.keep (by assumption) ?_)))) rfl (by decide), by (focus (repeat (first | exact Row.new _ _ _ _ _ (by first | rfl | simp) rfl | refine Row.old ?_ | refine Row.drew ?_ | assumption | refine Row.keep (by assumption) ?_)))⟩
        clear hHeld3 hKx Kx
        try simp only [Act.put, List.getElem_toArray, List.getElem_cons_zero, List.getElem_cons_succ, List.setIfInBounds_toArray, List.set_cons_zero, List.set_cons_succ]
        refine wpAnyH_ready (rs := [2]) (by kernel_rfl) (by simp) ?_
        refine (AllReadyH.cons rfl (fun Kx hKx => ?_) AllReadyH.nil)
        go_simp
        go_at_call 9
        refine (cs1 _ _ ?_).mono ?_
        (focus (repeat (first | exact Row.new _ _ _ _ _ (by first | rfl | simp) rfl | refine Row.old ?_ | refine Row.drew ?_ | assumption | refine Row.keep (by assumption) ?_)))
        rintro e w1 ⟨he, hB⟩
        obtain ⟨M, hM⟩ : ∃ M, M = sum [49, 50, 51, 52, 53] := ⟨_, rfl⟩
        rw [← hM] at he
        subst he
        have HM := Lib.hid hM
        clear hM
        have hB0 : Below w.heap.size w w1 := Below.trans (by (focus (repeat (first | exact HB.out | refine bal ?_ | refine Below.drew ?_)))) (hB.mono (Below.size (by (focus (repeat (first | exact HB.out | refine bal ?_ | refine Below.drew ?_))))))
        have hK1 := Keeps.below hB
        have HB : Hid (Below w.heap.size w w1) := Lib.hid hB0
        have hsz : w.heap.size ≤ w1.heap.size := hB0.size
        clear hB hB0
        go_wp2_with fail
        refine hKx.out _ _ ?_ (fun hHeld5 => ?_)
        · (try dsimp only); exact ⟨str_row [97, 193, 208, 67, 48] _ (by (focus (repeat (first | exact Row.new _ _ _ _ _ (by first | rfl | simp) rfl | refine Row.old ?_ | refine Row.drew ?_ | assumption | refine Row.keep (by assumption) ?_)))) rfl (by decide), by (focus (repeat (first | exact Row.new _ _ _ _ _ (by first | rfl | simp) rfl | refine Row.old ?_ | refine Row.drew ?_ | assumption | refine Row.keep (by assumption) ?_)))⟩
        clear hHeld4 hKx Kx
        try simp only [Act.put, List.getElem_toArray, List.getElem_cons_zero, List.getElem_cons_succ, List.setIfInBounds_toArray, List.set_cons_zero, List.set_cons_succ]
        refine wpAnyH_ready (rs := [5]) (by kernel_rfl) (by simp) ?_
        refine (AllReadyH.cons rfl (fun Kx hKx => ?_) AllReadyH.nil)
        go_simp
        go_at_call 11
        refine (cu1 _ M HM.out _ ?_).mono ?_
        (focus (repeat (first | exact Row.new _ _ _ _ _ (by first | rfl | simp) rfl | refine Row.old ?_ | refine Row.drew ?_ | assumption | refine Row.keep (by assumption) ?_)))
        rintro e w1 ⟨⟨N, rfl, hN, hT⟩, hB⟩
        have hB0 : Below w.heap.size w w1 := Below.trans (by (focus (repeat (first | exact HB.out | refine bal ?_ | refine Below.drew ?_)))) (hB.mono (Below.size (by (focus (repeat (first | exact HB.out | refine bal ?_ | refine Below.drew ?_))))))
        have hK1 := Keeps.below hB
        have HB : Hid (Below w.heap.size w w1) := Lib.hid hB0
        have hsz : w.heap.size ≤ w1.heap.size := hB0.size
        clear hB hB0
        go_wp2_with fail
        refine hKx.out _ _ ?_ (fun hHeld6 => ?_)
        · (try dsimp only); exact ⟨str_row [97, 193, 208, 67, 48] _ (by (focus (repeat (first | exact Row.new _ _ _ _ _ (by first | rfl | simp) rfl | refine Row.old ?_ | refine Row.drew ?_ | assumption | refine Row.keep (by assumption) ?_)))) rfl (by decide), by (focus (repeat (first | exact Row.new _ _ _ _ _ (by first | rfl | simp) rfl | refine Row.old ?_ | refine Row.drew ?_ | assumption | refine Row.keep (by assumption) ?_)))⟩
        clear hHeld5 hKx Kx
        try simp only [Act.put, List.getElem_toArray, List.getElem_cons_zero, List.getElem_cons_succ, List.setIfInBounds_toArray, List.set_cons_zero, List.set_cons_succ]
        refine wpAnyH_ready (rs := [6]) (by kernel_rfl) (by simp) ?_
        refine (AllReadyH.cons rfl (fun Kx hKx => ?_) AllReadyH.nil)
        go_simp
        go_at_call 17
        with_reducible refine (text_any _ hN _ (HV.out.below HB.out (Nat.le_refl _)).bruijn).mono ?_
        rintro e w1 ⟨he, hB⟩
        rw [hT] at he
        subst he
        have hB0 : Below w.heap.size w w1 := Below.trans (by (focus (repeat (first | exact HB.out | refine bal ?_ | refine Below.drew ?_)))) (hB.mono (Below.size (by (focus (repeat (first | exact HB.out | refine bal ?_ | refine Below.drew ?_))))))
        have hK1 := Keeps.below hB
        have HB : Hid (Below w.heap.size w w1) := Lib.hid hB0
        have hsz : w.heap.size ≤ w1.heap.size := hB0.size
        clear hB hB0
        go_wp2_with fail
        refine hKx.out _ _ ?_ (fun hHeld7 => ?_)
        · (try dsimp only); exact ⟨str_row [97, 193, 208, 67, 48] _ (by (focus (repeat (first | exact Row.new _ _ _ _ _ (by first | rfl | simp) rfl | refine Row.old ?_ | refine Row.drew ?_ | assumption | refine Row.keep (by assumption) ?_)))) rfl (by decide), by (focus (repeat (first | exact Row.new _ _ _ _ _ (by first | rfl | simp) rfl | refine Row.old ?_ | refine Row.drew ?_ | assumption | refine Row.keep (by assumption) ?_)))⟩
        clear hHeld6 hKx Kx
        try simp only [Act.put, List.getElem_toArray, List.getElem_cons_zero, List.getElem_cons_succ, List.setIfInBounds_toArray, List.set_cons_zero, List.set_cons_succ]
        refine wpAnyH_take (i := 7) (v := ?_) rfl (by kernel_rfl) (by kernel_rfl) (by kernel_rfl) (fun _ _ _ h => h) (Or.inl ⟨by rfl, ?_⟩) (by assumption) ?_
        rotate_left
        · intro w hSw; (try dsimp only at hSw); go_simp; with_reducible rfl
        try simp only [Act.put, List.getElem_toArray, List.getElem_cons_zero, List.getElem_cons_succ, List.setIfInBounds_toArray, List.set_cons_zero, List.set_cons_succ]
        refine wpAnyH_take (i := 8) (v := ?_) rfl (by kernel_rfl) (by kernel_rfl) (by kernel_rfl) (fun _ _ _ h => h) (Or.inl ⟨by rfl, ?_⟩) (by assumption) ?_
        rotate_left
        · intro w hSw; (try dsimp only at hSw); go_simp; with_reducible rfl
        try simp only [Act.put, List.getElem_toArray, List.getElem_cons_zero, List.getElem_cons_succ, List.setIfInBounds_toArray, List.set_cons_zero, List.set_cons_succ]
        refine wpAnyH_take (i := 13) (v := ?_) rfl (by kernel_rfl) (by kernel_rfl) (by kernel_rfl) (fun _ _ _ h => h) (Or.inl ⟨by rfl, ?_⟩) (by assumption) ?_
        rotate_left
        · intro w hSw; (try dsimp only at hSw); go_simp; with_reducible rfl
        try simp only [Act.put, List.getElem_toArray, List.getElem_cons_zero, List.getElem_cons_succ, List.setIfInBounds_toArray, List.set_cons_zero, List.set_cons_succ]
        refine wpAnyH_take (i := 14) (v := ?_) rfl (by kernel_rfl) (by kernel_rfl) (by kernel_rfl) (fun _ _ _ h => h) (Or.inl ⟨by rfl, ?_⟩) (by assumption) ?_
        rotate_left
        · intro w hSw; (try dsimp only at hSw); go_simp; with_reducible rfl
        try simp only [Act.put, List.getElem_toArray, List.getElem_cons_zero, List.getElem_cons_succ, List.setIfInBounds_toArray, List.set_cons_zero, List.set_cons_succ]
        refine wpAnyH_ready (rs := [9]) (by kernel_rfl) (by simp) ?_
        refine (AllReadyH.cons rfl (fun Kx hKx => ?_) AllReadyH.nil)
        go_simp
        refine hKx.out _ _ ?_ (fun hHeld8 => ?_)
        · (try dsimp only); exact ⟨str_row [97, 193, 208, 67, 48] _ (by (focus (repeat (first | exact Row.new _ _ _ _ _ (by first | rfl | simp) rfl | refine Row.old ?_ | refine Row.drew ?_ | assumption | refine Row.keep (by assumption) ?_)))) rfl (by decide), by (focus (repeat (first | exact Row.new _ _ _ _ _ (by first | rfl | simp) rfl | refine Row.old ?_ | refine Row.drew ?_ | assumption | refine Row.keep (by assumption) ?_)))⟩
        clear hHeld7 hKx Kx
        try simp only [Act.put, List.getElem_toArray, List.getElem_cons_zero, List.getElem_cons_succ, List.setIfInBounds_toArray, List.set_cons_zero, List.set_cons_succ]
        refine wpAnyH_ready (rs := [10]) (by kernel_rfl) (by simp) ?_
        refine (AllReadyH.cons rfl (fun Kx hKx => ?_) AllReadyH.nil)
        go_simp
        with_reducible refine (upon1 (w0 := w) ?_ ?_ ?_ ?_)
        (focus (repeat (first | exact Row.new _ _ _ _ _ (by first | rfl | simp) rfl | refine Row.old ?_ | refine Row.drew ?_ | assumption | refine Row.keep (by assumption) ?_)))
        (focus (repeat (first | exact HB.out | refine bal ?_ | refine Below.drew ?_)))
        (focus (first | omega | (simp; omega)))
        intro Y hB hK
        have HB : Hid (Below w.heap.size w Y) := Lib.hid hB
        have hsz : w.heap.size ≤ Y.heap.size := hB.size
        clear hB
        go_wp2_with fail
        refine hKx.out _ _ ?_ (fun hHeld9 => ?_)
        · (try dsimp only); exact ⟨str_row [97, 193, 208, 67, 48] _ (by (focus (repeat (first | exact Row.new _ _ _ _ _ (by first | rfl | simp) rfl | refine Row.old ?_ | refine Row.drew ?_ | assumption | refine Row.keep (by assumption) ?_)))) rfl (by decide), by (focus (repeat (first | exact Row.new _ _ _ _ _ (by first | rfl | simp) rfl | refine Row.old ?_ | refine Row.drew ?_ | assumption | refine Row.keep (by assumption) ?_)))⟩
        clear hHeld8 hKx Kx
        try simp only [Act.put, List.getElem_toArray, List.getElem_cons_zero, List.getElem_cons_succ, List.setIfInBounds_toArray, List.set_cons_zero, List.set_cons_succ]
        refine wpAnyH_ready (rs := [11]) (by kernel_rfl) (by simp) ?_
        refine (AllReadyH.cons rfl (fun Kx hKx => ?_) AllReadyH.nil)
        go_simp
        go_at_call 13
        refine (ca1 _ _ ?_).mono ?_
        (focus (repeat (first | exact Row.new _ _ _ _ _ (by first | rfl | simp) rfl | refine Row.old ?_ | refine Row.drew ?_ | assumption | refine Row.keep (by assumption) ?_)))
        rintro e w1 ⟨⟨v, rfl, hcv⟩, hB⟩
        have hB0 : Below w.heap.size w w1 := Below.trans (by (focus (repeat (first | exact HB.out | refine bal ?_ | refine Below.drew ?_)))) (hB.mono (Below.size (by (focus (repeat (first | exact HB.out | refine bal ?_ | refine Below.drew ?_))))))
        have hK1 := Keeps.below hB
        have HB : Hid (Below w.heap.size w w1) := Lib.hid hB0
        have hsz : w.heap.size ≤ w1.heap.size := hB0.size
        clear hB hB0
        go_wp2_with fail
        refine hKx.out _ _ ?_ (fun hHeld10 => ?_)
        · (try dsimp only); exact ⟨str_row [97, 193, 208, 67, 48] _ (by (focus (repeat (first | exact Row.new _ _ _ _ _ (by first | rfl | simp) rfl | refine Row.old ?_ | refine Row.drew ?_ | assumption | refine Row.keep (by assumption) ?_)))) rfl (by decide), by (focus (repeat (first | exact Row.new _ _ _ _ _ (by first | rfl | simp) rfl | refine Row.old ?_ | refine Row.drew ?_ | assumption | refine Row.keep (by assumption) ?_)))⟩
        clear hHeld9 hKx Kx
        try simp only [Act.put, List.getElem_toArray, List.getElem_cons_zero, List.getElem_cons_succ, List.setIfInBounds_toArray, List.set_cons_zero, List.set_cons_succ]
        refine wpAnyH_ready (rs := [12]) (by kernel_rfl) (by simp) ?_
        refine (AllReadyH.cons rfl (fun Kx hKx => ?_) AllReadyH.nil)
        go_simp
        refine hKx.out _ _ ?_ (fun hHeld11 => ?_)
        · (try dsimp only); exact ⟨str_row [97, 193, 208, 67, 48] _ (by (focus (repeat (first | exact Row.new _ _ _ _ _ (by first | rfl | simp) rfl | refine Row.old ?_ | refine Row.drew ?_ | assumption | refine Row.keep (by assumption) ?_)))) rfl (by decide), by (focus (repeat (first | exact Row.new _ _ _ _ _ (by first | rfl | simp) rfl | refine Row.old ?_ | refine Row.drew ?_ | assumption | refine Row.keep (by assumption) ?_)))⟩
        clear hHeld10 hKx Kx
        try simp only [Act.put, List.getElem_toArray, List.getElem_cons_zero, List.getElem_cons_succ, List.setIfInBounds_toArray, List.set_cons_zero, List.set_cons_succ]
        refine wpAnyH_take (i := 15) (v := ?_) rfl (by kernel_rfl) (by kernel_rfl) (by kernel_rfl) (fun _ _ _ h => h) (Or.inl ⟨by rfl, ?_⟩) (by assumption) ?_
        rotate_left
        · intro w hSw; (try dsimp only at hSw); go_simp; with_reducible rfl
        try simp only [Act.put, List.getElem_toArray, List.getElem_cons_zero, List.getElem_cons_succ, List.setIfInBounds_toArray, List.set_cons_zero, List.set_cons_succ]
        refine wpAnyH_take (i := 16) (v := ?_) rfl (by kernel_rfl) (by kernel_rfl) (by kernel_rfl) (fun _ _ _ h => h) (Or.inl ⟨by rfl, ?_⟩) (by assumption) ?_
        rotate_left
        · intro w hSw; (try dsimp only at hSw); go_simp; with_reducible rfl
        try simp only [Act.put, List.getElem_toArray, List.getElem_cons_zero, List.getElem_cons_succ, List.setIfInBounds_toArray, List.set_cons_zero, List.set_cons_succ]
        refine wpAnyH_take (i := 17) (v := ?_) rfl (by kernel_rfl) (by kernel_rfl) (by kernel_rfl) (fun _ _ _ h => h) (Or.inl ⟨by rfl, ?_⟩) (by assumption) ?_
        rotate_left
        · intro w hSw; (try dsimp only at hSw); go_simp; with_reducible rfl
        try simp only [Act.put, List.getElem_toArray, List.getElem_cons_zero, List.getElem_cons_succ, List.setIfInBounds_toArray, List.set_cons_zero, List.set_cons_succ]
        refine wpAnyH_take (i := 18) (v := ?_) rfl (by kernel_rfl) (by kernel_rfl) (by kernel_rfl) (fun _ _ _ h => h) (Or.inl ⟨by rfl, ?_⟩) (by assumption) ?_
        rotate_left
        · intro w hSw; (try dsimp only at hSw); go_simp; with_reducible rfl
        try simp only [Act.put, List.getElem_toArray, List.getElem_cons_zero, List.getElem_cons_succ, List.setIfInBounds_toArray, List.set_cons_zero, List.set_cons_succ]
        refine wpAnyH_ready (rs := [19]) (by kernel_rfl) (by simp) ?_
        refine (AllReadyH.cons rfl (fun Kx hKx => ?_) AllReadyH.nil)
        go_simp
        refine hKx.out _ _ ?_ (fun hHeld12 => ?_)
        · (try dsimp only); exact ⟨str_row [97, 193, 208, 67, 48] _ (by (focus (repeat (first | exact Row.new _ _ _ _ _ (by first | rfl | simp) rfl | refine Row.old ?_ | refine Row.drew ?_ | assumption | refine Row.keep (by assumption) ?_)))) rfl (by decide), by (focus (repeat (first | exact Row.new _ _ _ _ _ (by first | rfl | simp) rfl | refine Row.old ?_ | refine Row.drew ?_ | assumption | refine Row.keep (by assumption) ?_)))⟩
        clear hHeld11 hKx Kx
        try simp only [Act.put, List.getElem_toArray, List.getElem_cons_zero, List.getElem_cons_succ, List.setIfInBounds_toArray, List.set_cons_zero, List.set_cons_succ]
        refine wpAnyH_ready (rs := [20]) (by kernel_rfl) (by simp) ?_
        refine (AllReadyH.cons rfl (fun Kx hKx => ?_) AllReadyH.nil)
        go_simp
        go_at_call 15
        refine (co1 _ _ _ ?_ ?_).mono ?_
        (focus (repeat (first | exact Row.new _ _ _ _ _ (by first | rfl | simp) rfl | refine Row.old ?_ | refine Row.drew ?_ | assumption | refine Row.keep (by assumption) ?_)))
        (focus (repeat (first | exact Row.new _ _ _ _ _ (by first | rfl | simp) rfl | refine Row.old ?_ | refine Row.drew ?_ | assumption | refine Row.keep (by assumption) ?_)))
        rintro e w1 ⟨rfl, hB⟩
        have hB0 : Below w.heap.size w w1 := Below.trans (by (focus (repeat (first | exact HB.out | refine bal ?_ | refine Below.drew ?_)))) (hB.mono (Below.size (by (focus (repeat (first | exact HB.out | refine bal ?_ | refine Below.drew ?_))))))
        have hK1 := Keeps.below hB
        have HB : Hid (Below w.heap.size w w1) := Lib.hid hB0
        have hsz : w.heap.size ≤ w1.heap.size := hB0.size
        clear hB hB0
        go_wp2_with fail
        refine hKx.out _ _ ?_ (fun hHeld13 => ?_)
        · (try dsimp only); exact ⟨str_row [97, 193, 208, 67, 48] _ (by (focus (repeat (first | exact Row.new _ _ _ _ _ (by first | rfl | simp) rfl | refine Row.old ?_ | refine Row.drew ?_ | assumption | refine Row.keep (by assumption) ?_)))) rfl (by decide), by (focus (repeat (first | exact Row.new _ _ _ _ _ (by first | rfl | simp) rfl | refine Row.old ?_ | refine Row.drew ?_ | assumption | refine Row.keep (by assumption) ?_)))⟩
        clear hHeld12 hKx Kx
        try simp only [Act.put, List.getElem_toArray, List.getElem_cons_zero, List.getElem_cons_succ, List.setIfInBounds_toArray, List.set_cons_zero, List.set_cons_succ]
        refine wpAnyH_take (i := 21) (v := ?_) rfl (by kernel_rfl) (by kernel_rfl) (by kernel_rfl) (fun _ _ _ h => h) (Or.inl ⟨by rfl, ?_⟩) (by assumption) ?_
        rotate_left
        · intro w hSw; (try dsimp only at hSw); go_simp; with_reducible rfl
        try simp only [Act.put, List.getElem_toArray, List.getElem_cons_zero, List.getElem_cons_succ, List.setIfInBounds_toArray, List.set_cons_zero, List.set_cons_succ]
        refine wpAnyH_take (i := 22) (v := ?_) rfl (by kernel_rfl) (by kernel_rfl) (by kernel_rfl) (fun _ _ _ h => h) (Or.inl ⟨by rfl, ?_⟩) (by assumption) ?_
        rotate_left
        · intro w hSw; (try dsimp only at hSw); go_simp; with_reducible rfl
        try simp only [Act.put, List.getElem_toArray, List.getElem_cons_zero, List.getElem_cons_succ, List.setIfInBounds_toArray, List.set_cons_zero, List.set_cons_succ]
        refine wpAnyH_done (by kernel_rfl) ?_ _
        refine NoPanic.normal ?_
        go_wp2_with (first
          | (go_at_call 15; with_reducible refine (ko_nil _).mono ?_; rintro e w1 ⟨rfl, hB⟩; have HB : Hid (Below w.heap.size w w1) := Lib.hid (HB.out.trans (hB.mono HB.out.size)); clear hB)
          | (go_at_call 15; with_reducible refine (ko_z _).mono ?_; rintro e w1 ⟨rfl, hB⟩; have HB : Hid (Below w.heap.size w w1) := Lib.hid (HB.out.trans (hB.mono HB.out.size)); clear hB)
          | (go_at_call 15; with_reducible refine (ko_o _).mono ?_; rintro e w1 ⟨rfl, hB⟩; have HB : Hid (Below w.heap.size w w1) := Lib.hid (HB.out.trans (hB.mono HB.out.size)); clear hB)
          | (go_at_call 15; with_reducible refine (ko_c _).mono ?_; rintro e w1 ⟨rfl, hB⟩; have HB : Hid (Below w.heap.size w w1) := Lib.hid (HB.out.trans (hB.mono HB.out.size)); clear hB)
          | (go_at_call 20; with_reducible refine (kp_l _ (HV.out.below HB.out (Nat.le_refl _))).mono ?_; rintro e w1 ⟨rfl, hB⟩; have HB : Hid (Below w.heap.size w w1) := Lib.hid (HB.out.trans (hB.mono HB.out.size)); clear hB)
          | (go_at_call 20; with_reducible refine (kp_u _ (HV.out.below HB.out (Nat.le_refl _))).mono ?_; rintro e w1 ⟨rfl, hB⟩; have HB : Hid (Below w.heap.size w w1) := Lib.hid (HB.out.trans (hB.mono HB.out.size)); clear hB))
        go_ret
        exact ⟨rfl, HB.out⟩
  · go_simp
    refine hKx.out _ _ ?_ (fun hHeld1 => ?_)
    · (try dsimp only); exact ⟨str_row [97, 193, 208, 67, 48] _ (by (focus (repeat (first | exact Row.new _ _ _ _ _ (by first | rfl | simp) rfl | refine Row.old ?_ | refine Row.drew ?_ | assumption | refine Row.keep (by assumption) ?_)))) rfl (by decide), by (focus (repeat (first | exact Row.new _ _ _ _ _ (by first | rfl | simp) rfl | refine Row.old ?_ | refine Row.drew ?_ | assumption | refine Row.keep (by assumption) ?_)))⟩
    clear hHeld0 hKx Kx
    try simp only [Act.put, List.getElem_toArray, List.getElem_cons_zero, List.getElem_cons_succ, List.setIfInBounds_toArray, List.set_cons_zero, List.set_cons_succ]
    refine wpAnyH_ready (rs := [0, 4]) (by kernel_rfl) (by simp) ?_
    refine (AllReadyH.cons rfl (fun Kx hKx => ?_) (AllReadyH.cons rfl (fun Kx hKx => ?_) AllReadyH.nil))
    · go_simp
      refine hKx.out _ _ ?_ (fun hHeld2 => ?_)
      · (try dsimp only); exact ⟨str_row [97, 193, 208, 67, 48] _ (by (focus (repeat (first | exact Row.new _ _ _ _ _ (by first | rfl | simp) rfl | refine Row.old ?_ | refine Row.drew ?_ | assumption | refine Row.keep (by assumption) ?_)))) rfl (by decide), by (focus (repeat (first | exact Row.new _ _ _ _ _ (by first | rfl | simp) rfl | refine Row.old ?_ | refine Row.drew ?_ | assumption | refine Row.keep (by assumption) ?_)))⟩
      clear hHeld1 hKx Kx
      try simp only [Act.put, List.getElem_toArray, List.getElem_cons_zero, List.getElem_cons_succ, List.setIfInBounds_toArray, List.set_cons_zero, List.set_cons_succ]
      refine wpAnyH_ready (rs := [1, 4]) (by kernel_rfl) (by simp) ?_
      refine (AllReadyH.cons rfl (fun Kx hKx => ?_) (AllReadyH.cons rfl (fun Kx hKx => ?_) AllReadyH.nil))
      · go_simp
        with_reducible refine (upon5 (w0 := w) ?_ ?_ ?_ ?_)
        (focus (repeat (first | exact Row.new _ _ _ _ _ (by first | rfl | simp) rfl | refine Row.old ?_ | refine Row.drew ?_ | assumption | refine Row.keep (by assumption) ?_)))
        (focus (repeat (first | exact HB.out | refine bal ?_ | refine Below.drew ?_)))
        (focus (first | omega | (simp; omega)))
        intro Y hB hK
        have HB : Hid (Below w.heap.size w Y) := Lib.hid hB
        have hsz : w.heap.size ≤ Y.heap.size := hB.size
        clear hB
        go_wp2_with fail
        refine hKx.out _ _ ?_ (fun hHeld3 => ?_)
        · (try dsimp only); exact ⟨str_row [97, 193, 208, 67, 48] _ (by (focus (repeat (first | exact Row.new _ _ _ _ _ (by first | rfl | simp) rfl | refine Row.old ?_ | refine Row.drew ?_ | assumption | refine Row.keep (by assumption) ?_)))) rfl (by decide), by (focus (repeat (first | exact Row.new _ _ _ _ _ (by first | rfl | simp) rfl | refine Row.old ?_ | refine Row.drew ?_ | assumption | refine Row.keep (by assumption) ?_)))⟩
        clear hHeld2 hKx Kx
        try simp only [Act.put, List.getElem_toArray, List.getElem_cons_zero, List.getElem_cons_succ, List.setIfInBounds_toArray, List.set_cons_zero, List.set_cons_succ]
        refine wpAnyH_ready (rs := [2, 4]) (by kernel_rfl) (by simp) ?_
        refine (AllReadyH.cons rfl (fun Kx hKx => ?_) (AllReadyH.cons rfl (fun Kx hKx => ?_) AllReadyH.nil))
        · go_simp
          go_at_call 9
          refine (cs1 _ _ ?_).mono ?_
          (focus (repeat (first | exact Row.new _ _ _ _ _ (by first | rfl | simp) rfl | refine Row.old ?_ | refine Row.drew ?_ | assumption | refine Row.keep (by assumption) ?_)))
          rintro e w1 ⟨he, hB⟩
          obtain ⟨M, hM⟩ : ∃ M, M = sum [49, 50, 51, 52, 53] := ⟨_, rfl⟩
          rw [← hM] at he
          subst he
          have HM := Lib.hid hM
          clear hM
          have hB0 : Below w.heap.size w w1 := Below.trans (by (focus (repeat (first | exact HB.out | refine bal ?_ | refine Below.drew ?_)))) (hB.mono (Below.size (by (focus (repeat (first | exact HB.out | refine bal ?_ | refine Below.drew ?_))))))
          have hK1 := Keeps.below hB
          have HB : Hid (Below w.heap.size w w1) := Lib.hid hB0
          have hsz : w.heap.size ≤ w1.heap.size := hB0.size
          clear hB hB0
          go_wp2_with fail
          refine hKx.out _ _ ?_ (fun hHeld4 => ?_)
          · (try dsimp only); exact ⟨str_row [97, 193, 208, 67, 48] _ (by (focus (repeat (first | exact Row.new _ _ _ _ _ (by first | rfl | simp) rfl | refine Row.old ?_ | refine Row.drew ?_ | assumption | refine Row.keep (by assumption) ?_)))) rfl (by decide), by (focus (repeat (first | exact Row.new _ _ _ _ _ (by first | rfl | simp) rfl | refine Row.old ?_ | refine Row.drew ?_ | assumption | refine Row.keep (by assumption) ?_)))⟩
          clear hHeld3 hKx Kx
          try simp only [Act.put, List.getElem_toArray, List.getElem_cons_zero, List.getElem_cons_succ, List.setIfInBounds_toArray, List.set_cons_zero, List.set_cons_succ]
          refine wpAnyH_ready (rs := [4]) (by kernel_rfl) (by simp) ?_
          refine (AllReadyH.cons rfl (fun Kx hKx => ?_) AllReadyH.nil)
          go_simp
          with_reducible refine (upon4 (w0 := w) ?_ ?_ ?_ ?_)
          (focus (repeat (first | exact Row.new _ _ _ _ _ (by first | rfl | simp) rfl | refine Row.old ?_ | refine Row.drew ?_ | assumption | refine Row.keep (by assumption) ?_)))
          (focus (repeat (first | exact HB.out | refine bal ?_ | refine Below.drew ?_)))
          (focus (first | omega | (simp; omega)))
          intro Y hB hK
          have HB : Hid (Below w.heap.size w Y) := Lib.hid hB
          have hsz : w.heap.size ≤ Y.heap.size := hB.size
          clear hB
          go_wp2_with fail
          refine hKx.out _ _ ?_ (fun hHeld5 => ?_)
          · (try dsimp only); exact ⟨str_row [97, 193, 208, 67, 48] _ (by (focus (repeat (first | exact Row.new _ _ _ _ _ (by first | rfl | simp) rfl | refine Row.old ?_ | refine Row.drew ?_ | assumption | refine Row.keep (by assumption) ?_)))) rfl (by decide), by (focus (repeat (first | exact Row.new _ _ _ _ _ (by first | rfl | simp) rfl | refine Row.old ?_ | refine Row.drew ?_ | assumption | refine Row.keep (by assumption) ?_)))⟩
          clear hHeld4 hKx Kx
          try simp only [Act.put, List.getElem_toArray, List.getElem_cons_zero, List.getElem_cons_succ, List.setIfInBounds_toArray, List.set_cons_zero, List.set_cons_succ]
          refine wpAnyH_ready (rs := [5]) (by kernel_rfl) (by simp) ?_
          refine (AllReadyH.cons rfl (fun Kx hKx => ?_) AllReadyH.nil)
          go_simp
          go_at_call 11
          refine (cu1 _ M HM.out _ ?_).mono ?_
          (focus (repeat (first | exact Row.new _ _ _ _ _ (by first | rfl | simp) rfl | refine Row.old ?_ | refine Row.drew ?_ | assumption | refine Row.keep (by assumption) ?_)))
          rintro e w1 ⟨⟨N, rfl, hN, hT⟩, hB⟩
          have hB0 : Below w.heap.size w w1 := Below.trans (by (focus (repeat (first | exact HB.out | refine bal ?_ | refine Below.drew ?_)))) (hB.mono (Below.size (by (focus (repeat (first | exact HB.out | refine bal ?_ | refine Below.drew ?_))))))
          have hK1 := Keeps.below hB
          have HB : Hid (Below w.heap.size w w1) := Lib.hid hB0
          have hsz : w.heap.size ≤ w1.heap.size := hB0.size
          clear hB hB0
          go_wp2_with fail
          refine hKx.out _ _ ?_ (fun hHeld6 => ?_)
          · (try dsimp only); exact ⟨str_row [97, 193, 208, 67, 48] _ (by (focus (repeat (first | exact Row.new _ _ _ _ _ (by first | rfl | simp) rfl | refine Row.old ?_ | refine Row.drew ?_ | assumption | refine Row.keep (by assumption) ?_)))) rfl (by decide), by (focus (repeat (first | exact Row.new _ _ _ _ _ (by first | rfl | simp) rfl | refine Row.old ?_ | refine Row.drew ?_ | assumption | refine Row.keep (by assumption) ?_)))⟩
          clear hHeld5 hKx Kx
          try simp only [Act.put, List.getElem_toArray, List.getElem_cons_zero, List.getElem_cons_succ, List.setIfInBounds_toArray, List.set_cons_zero, List.set_cons_succ]
          refine wpAnyH_ready (rs := [6]) (by kernel_rfl) (by simp) ?_
          refine (AllReadyH.cons rfl (fun Kx hKx => ?_) AllReadyH.nil)
          go_simp
          go_at_call 17
          with_reducible refine (text_any _ hN _ (HV.out.below HB.out (Nat.le_refl _)).bruijn).mono ?_
          rintro e w1 ⟨he, hB⟩
          rw [hT] at he
          subst he
          have hB0 : Below w.heap.size w w1 := Below.trans (by (focus (repeat (first | exact HB.out | refine bal ?_ | refine Below.drew ?_)))) (hB.mono (Below.size (by (focus (repeat (first | exact HB.out | refine bal ?_ | refine Below.drew ?_))))))
          have hK1 := Keeps.below hB
          have HB : Hid (Below w.heap.size w w1) := Lib.hid hB0
          have hsz : w.heap.size ≤ w1.heap.size := hB0.size
          clear hB hB0
          go_wp2_with fail
          refine hKx.out _ _ ?_ (fun hHeld7 => ?_)
          · (try dsimp only); exact ⟨str_row [97, 193, 208, 67, 48] _ (by (focus (repeat (first | exact Row.new _ _ _ _ _ (by first | rfl | simp) rfl | refine Row.old ?_ | refine Row.drew ?_ | assumption | refine Row.keep (by assumption) ?_)))) rfl (by decide), by (focus (repeat (first | exact Row.new _ _ _ _ _ (by first | rfl | simp) rfl | refine Row.old ?_ | refine Row.drew ?_ | assumption | refine Row.keep (by assumption) ?_)))⟩
          clear hHeld6 hKx Kx
          try simp only [Act.put, List.getElem_toArray, List.getElem_cons_zero, List.getElem_cons_succ, List.setIfInBounds_toArray, List.set_cons_zero, List.set_cons_succ]
          refine wpAnyH_take (i := 7) (v := ?_) rfl (by kernel_rfl) (by kernel_rfl) (by kernel_rfl) (fun _ _ _ h => h) (Or.inl ⟨by rfl, ?_⟩) (by assumption) ?_
          rotate_left
          · intro w hSw; (try dsimp only at hSw); go_simp; with_reducible rfl
          try simp only [Act.put, List.getElem_toArray, List.getElem_cons_zero, List.getElem_cons_succ, List.setIfInBounds_toArray, List.set_cons_zero, List.set_cons_succ]
          refine wpAnyH_take (i := 8) (v := ?_) rfl (by kernel_rfl) (by kernel_rfl) (by kernel_rfl) (fun _ _ _ h => h) (Or.inl ⟨by rfl, ?_⟩) (by assumption) ?_
          rotate_left
          · intro w hSw; (try dsimp only at hSw); go_simp; with_reducible rfl
          try simp only [Act.put, List.getElem_toArray, List.getElem_cons_zero, List.getElem_cons_succ, List.setIfInBounds_toArray, List.set_cons_zero, List.set_cons_succ]
          refine wpAnyH_take (i := 13) (v := ?_) rfl (by kernel_rfl) (by kernel_rfl) (by kernel_rfl) (fun _ _ _ h => h) (Or.inl ⟨by rfl, ?_⟩) (by assumption) ?_
          rotate_left
          · intro w hSw; (try dsimp only at hSw); go_simp; with_reducible rfl
          try simp only [Act.put, List.getElem_toArray, List.getElem_cons_zero, List.getElem_cons_succ, List.setIfInBounds_toArray, List.set_cons_zero, List.set_cons_succ]
          refine wpAnyH_take (i := 14) (v := ?_) rfl (by kernel_rfl) (by kernel_rfl) (by kernel_rfl) (fun _ _ _ h => h) (Or.inl ⟨by rfl, ?_⟩) (by assumption) ?_
          rotate_left
          · intro w hSw; (try dsimp only at hSw); go_simp; with_reducible rfl
          try simp only [Act.put, List.getElem_toArray, List.getElem_cons_zero, List.getElem_cons_succ, List.setIfInBounds_toArray, List.set_cons_zero, List.set_cons_succ]
          refine wpAnyH_ready (rs := [9]) (by kernel_rfl) (by simp) ?_
          refine (AllReadyH.cons rfl (fun Kx hKx => ?_) AllReadyH.nil)
          go_simp
          refine hKx.out _ _ ?_ (fun hHeld8 => ?_)
          · (try dsimp only); exact ⟨str_row [97, 193, 208, 67, 48] _ (by (focus (repeat (first | exact Row.new _ _ _ _ _ (by first | rfl | simp) rfl | refine Row.old ?_ | refine Row.drew ?_ | assumption | refine Row.keep (by assumption) ?_)))) rfl (by decide), by (focus (repeat (first | exact Row.new _ _ _ _ _ (by first | rfl | simp) rfl | refine Row.old ?_ | refine Row.drew ?_ | assumption | refine Row.keep (by assumption) ?_)))⟩
          clear hHeld7 hKx Kx
          try simp only [Act.put, List.getElem_toArray, List.getElem_cons_zero, List.getElem_cons_succ, List.setIfInBounds_toArray, List.set_cons_zero, List.set_cons_succ]
          refine wpAnyH_ready (rs := [10]) (by kernel_rfl) (by simp) ?_
          refine (AllReadyH.cons rfl (fun Kx hKx => ?_) AllReadyH.nil)
          go_simp
          with_reducible refine (upon1 (w0 := w) ?_ ?_ ?_ ?_)
          (focus (repeat (first | exact Row.new _ _ _ _ _ (by first | rfl | simp) rfl | refine Row.old ?_ | refine Row.drew ?_ | assumption | refine Row.keep (by assumption) ?_)))
          (focus (repeat (first | exact HB.out | refine bal ?_ | refine Below.drew ?_)))
          (focus (first | omega | (simp; omega)))
          intro Y hB hK
          have HB : Hid (Below w.heap.size w Y) := Lib.hid hB
          have hsz : w.heap.size ≤ Y.heap.size := hB.size
          clear hB
          go_wp2_with fail
          refine hKx.out _ _ ?_ (fun hHeld9 => ?_)
          · (try dsimp only); exact ⟨str_row [97, 193, 208, 67, 48] _ (by (focus (repeat (first | exact Row.new _ _ _ _ _ (by first | rfl | simp) rfl | refine Row.old ?_ | refine Row.drew ?_ | assumption | refine Row.keep (by assumption) ?_)))) rfl (by decide), by (focus (repeat (first | exact Row.new _ _ _ _ _ (by first | rfl | simp) rfl | refine Row.old ?_ | refine Row.drew ?_ | assumption | refine Row.keep (by assumption) ?_)))⟩
          clear hHeld8 hKx Kx
          try simp only [Act.put, List.getElem_toArray, List.getElem_cons_zero, List.getElem_cons_succ, List.setIfInBounds_toArray, List.set_cons_zero, List.set_cons_succ]
          refine wpAnyH_ready (rs := [11]) (by kernel_rfl) (by simp) ?_
          refine (AllReadyH.cons rfl (fun Kx hKx => ?_) AllReadyH.nil)
          go_simp
          go_at_call 13
          refine (ca1 _ _ ?_).mono ?_
          (focus (repeat (first | exact Row.new _ _ _ _ _ (by first | rfl | simp) rfl | refine Row.old ?_ | refine Row.drew ?_ | assumption | refine Row.keep (by assumption) ?_)))
          rintro e w1 ⟨⟨v, rfl, hcv⟩, hB⟩
          have hB0 : Below w.heap.size w w1 := Below.trans (by (focus (repeat (first | exact HB.out | refine bal ?_ | refine Below.drew ?_)))) (hB.mono (Below.size (by (focus (repeat (first | exact HB.out | refine bal ?_ | refine Below.drew ?_))))))
          have hK1 := Keeps.below hB
          have HB : Hid (Below w.heap.size w w1) := Lib.hid hB0
          have hsz : w.heap.size ≤ w1.heap.size := hB0.size
          clear hB hB0
          go_wp2_with fail
          refine hKx.out _ _ ?_ (fun hHeld10 => ?_)
          · (try dsimp only); exact ⟨str_row [97, 193, 208, 67, 48] _ (by (focus (repeat (first | exact Row.new _ _ _ _ _ (by first | rfl | simp) rfl | refine Row.old ?_ | refine Row.drew ?_ | assumption | refine Row.keep (by assumption) ?_)))) rfl (by decide), by (focus (repeat (first | exact Row.new _ _ _ _ _ (by first | rfl | simp) rfl | refine Row.old ?_ | refine Row.drew ?_ | assumption | refine Row.keep (by assumption) ?_)))⟩
          clear hHeld9 hKx Kx
          try simp only [Act.put, List.getElem_toArray, List.getElem_cons_zero, List.getElem_cons_succ, List.setIfInBounds_toArray, List.set_cons_zero, List.set_cons_succ]
          refine wpAnyH_ready (rs := [12]) (by kernel_rfl) (by simp) ?_
          refine (AllReadyH.cons rfl (fun Kx hKx => ?_) AllReadyH.nil)
          go_simp
          refine hKx.out _ _ ?_ (fun hHeld11 => ?_)
          · (try dsimp only); exact ⟨str_row [97, 193, 208, 67, 48] _ (by (focus (repeat (first | exact Row.new _ _ _ _ _ (by first | rfl | simp) rfl | refine Row.old ?_ | refine Row.drew ?_ | assumption | refine Row.keep (by assumption) ?_)))) rfl (by decide), by (focus (repeat (first | exact Row.new _ _ _ _ _ (by first | rfl | simp) rfl | refine Row.old ?_ | refine Row.drew ?_ | assumption | refine Row.keep (by assumption) ?_)))⟩
          clear hHeld10 hKx Kx
          try simp only [Act.put, List.getElem_toArray, List.getElem_cons_zero, List.getElem_cons_succ, List.setIfInBounds_toArray, List.set_cons_zero, List.set_cons_succ]
          refine wpAnyH_take (i := 15) (v := ?_) rfl (by kernel_rfl) (by kernel_rfl) (by kernel_rfl) (fun _ _ _ h => h) (Or.inl ⟨by rfl, ?_⟩) (by assumption) ?_
          rotate_left
          · intro w hSw; (try dsimp only at hSw); go_simp; with_reducible rfl
          try simp only [Act.put, List.getElem_toArray, List.getElem_cons_zero, List.getElem_cons_succ, List.setIfInBounds_toArray, List.set_cons_zero, List.set_cons_succ]
          refine wpAnyH_take (i := 16) (v := ?_) rfl (by kernel_rfl) (by kernel_rfl) (by kernel_rfl) (fun _ _ _ h => h) (Or.inl ⟨by rfl, ?_⟩) (by assumption) ?_
          rotate_left
          · intro w hSw; (try dsimp only at hSw); go_simp; with_reducible rfl
          try simp only [Act.put, List.getElem_toArray, List.getElem_cons_zero, List.getElem_cons_succ, List.setIfInBounds_toArray, List.set_cons_zero, List.set_cons_succ]
          refine wpAnyH_take (i := 17) (v := ?_) rfl (by kernel_rfl) (by kernel_rfl) (by kernel_rfl) (fun _ _ _ h => h) (Or.inl ⟨by rfl, ?_⟩) (by assumption) ?_
          rotate_left
          · intro w hSw; (try dsimp only at hSw); go_simp; with_reducible rfl
          try simp only [Act.put, List.getElem_toArray, List.getElem_cons_zero, List.getElem_cons_succ, List.setIfInBounds_toArray, List.set_cons_zero, List.set_cons_succ]
          refine wpAnyH_take (i := 18) (v := ?_) rfl (by kernel_rfl) (by kernel_rfl) (by kernel_rfl) (fun _ _ _ h => h) (Or.inl ⟨by rfl, ?_⟩) (by assumption) ?_
          rotate_left
          · intro w hSw; (try dsimp only at hSw); go_simp; with_reducible rfl
          try simp only [Act.put, List.getElem_toArray, List.getElem_cons_zero, List.getElem_cons_succ, List.setIfInBounds_toArray, List.set_cons_zero, List.set_cons_succ]
          refine wpAnyH_ready (rs := [19]) (by kernel_rfl) (by simp) ?_
          refine (AllReadyH.cons rfl (fun Kx hKx => ?_) AllReadyH.nil)
          go_simp
          refine hKx.out _ _ ?_ (fun hHeld12 => ?_)
          · (try dsimp only); exact ⟨str_row [97, 193, 208, 67, 48] _ (by (focus (repeat (first | exact Row.new _ _ _ _ _ (by first | rfl | simp) rfl | refine Row.old ?_ | refine Row.drew ?_ | assumption | refine Row.keep (by assumption) ?_)))) rfl (by decide), by (focus (repeat (first | exact Row.new _ _ _ _ _ (by first | rfl | simp) rfl | refine Row.old ?_ | refine Row.drew ?_ | assumption | refine Row.keep (by assumption) ?_)))⟩
          clear hHeld11 hKx Kx
          try simp only [Act.put, List.getElem_toArray, List.getElem_cons_zero, List.getElem_cons_succ, List.setIfInBounds_toArray, List.set_cons_zero, List.set_cons_succ]
          refine wpAnyH_ready (rs := [20]) (by kernel_rfl) (by simp) ?_
          refine (AllReadyH.cons rfl (fun Kx hKx => ?_) AllReadyH.nil)
          go_simp
          go_at_call 15
          refine (co1 _ _ _ ?_ ?_).mono ?_
          (focus (repeat (first | exact Row.new _ _ _ _ _ (by first | rfl | simp) rfl | refine Row.old ?_ | refine Row.drew ?_ | assumption | refine Row.keep (by assumption) ?_)))
          (focus (repeat (first | exact Row.new _ _ _ _ _ (by first | rfl | simp) rfl | refine Row.old ?_ | refine Row.drew ?_ | assumption | refine Row.keep (by assumption) ?_)))
          rintro e w1 ⟨rfl, hB⟩
          have hB0 : Below w.heap.size w w1 := Below.trans (by (focus (repeat (first | exact HB.out | refine bal ?_ | refine Below.drew ?_)))) (hB.mono (Below.size (by (focus (repeat (first | exact HB.out | refine bal ?_ | refine Below.drew ?_))))))
          have hK1 := Keeps.below hB
          have HB : Hid (Below w.heap.size w w1) := Lib.hid hB0
          have hsz : w.heap.size ≤ w1.heap.size := hB0.size
          clear hB hB0
          go_wp2_with fail
          refine hKx.out _ _ ?_ (fun hHeld13 => ?_)
          · (try dsimp only); exact ⟨str_row [97, 193, 208, 67, 48] _ (by (focus (repeat (first | exact Row.new _ _ _ _ _ (by first | rfl | simp) rfl | refine Row.old ?_ | refine Row.drew ?_ | assumption | refine Row.keep (by assumption) ?_)))) rfl (by decide), by (focus (repeat (first | exact Row.new _ _ _ _ _ (by first | rfl | simp) rfl | refine Row.old ?_ | refine Row.drew ?_ | assumption | refine Row.keep (by assumption) ?_)))⟩
          clear hHeld12 hKx Kx
          try simp only [Act.put, List.getElem_toArray, List.getElem_cons_zero, List.getElem_cons_succ, List.setIfInBounds_toArray, List.set_cons_zero, List.set_cons_succ]
          refine wpAnyH_take (i := 21) (v := ?_) rfl (by kernel_rfl) (by kernel_rfl) (by kernel_rfl) (fun _ _ _ h => h) (Or.inl ⟨by rfl, ?_⟩) (by assumption) ?_
          rotate_left
          · intro w hSw; (try dsimp only at hSw); go_simp; with_reducible rfl
          try simp only [Act.put, List.getElem_toArray, List.getElem_cons_zero, List.getElem_cons_succ, List.setIfInBounds_toArray, List.set_cons_zero, List.set_cons_succ]
          refine wpAnyH_take (i := 22) (v := ?_) rfl (by kernel_rfl) (by kernel_rfl) (by kernel_rfl) (fun _ _ _ h => h) (Or.inl ⟨by rfl, ?_⟩) (by assumption) ?_
          rotate_left
          · intro w hSw; (try dsimp only at hSw); go_simp; with_reducible rfl
          try simp only [Act.put, List.getElem_toArray, List.getElem_cons_zero, List.getElem_cons_succ, List.setIfInBounds_toArray, List.set_cons_zero, List.set_cons_succ]
          refine wpAnyH_done (by kernel_rfl) ?_ _
          refine NoPanic.normal ?_
          go_wp2_with (first
            | (go_at_call 15; with_reducible refine (ko_nil _).mono ?_; rintro e w1 ⟨rfl, hB⟩; have HB : Hid (Below w.heap.size w w1) := Lib.hid (HB.out.trans (hB.mono HB.out.size)); clear hB)
            | (go_at_call 15; with_reducible refine (ko_z _).mono ?_; rintro e w1 ⟨rfl, hB⟩; have HB : Hid (Below w.heap.size w w1) := Lib.hid (HB.out.trans (hB.mono HB.out.size)); clear hB)
            | (go_at_call 15; with_reducible refine (ko_o _).mono ?_; rintro e w1 ⟨rfl, hB⟩; have HB : Hid (Below w.heap.size w w1) := Lib.hid (HB.out.trans (hB.mono HB.out.size)); clear hB)
            | (go_at_call 15; with_reducible refine (ko_c _).mono ?_; rintro e w1 ⟨rfl, hB⟩; have HB : Hid (Below w.heap.size w w1) := Lib.hid (HB.out.trans (hB.mono HB.out.size)); clear hB)
            | (go_at_call 20; with_reducible refine (kp_l _ (HV.out.below HB.out (Nat.le_refl _))).mono ?_; rintro e w1 ⟨rfl, hB⟩; have HB : Hid (Below w.heap.size w w1) := Lib.hid (HB.out.trans (hB.mono HB.out.size)); clear hB)
            | (go_at_call 20; with_reducible refine (kp_u _ (HV.out.below HB.out (Nat.le_refl _))).mono ?_; rintro e w1 ⟨rfl, hB⟩; have HB : Hid (Below w.heap.size w w1) := Lib.hid (HB.out.trans (hB.mono HB.out.size)); clear hB))
          go_ret
          exact ⟨rfl, HB.out⟩
        · go_simp
          with_reducible refine (upon4 (w0 := w) ?_ ?_ ?_ ?_)
          (focus (repeat (first | exact Row.new _ _ _ _ _ (by first | rfl | simp) rfl | refine Row.old ?_ | refine Row.drew ?_ | assumption | refine Row.keep (by assumption) ?_)))
          (focus (repeat (first | exact HB.out | refine bal ?_ | refine Below.drew ?_)))
          (focus (first | omega | (simp; omega)))
          intro Y hB hK
          have HB : Hid (Below w.heap.size w Y) := Lib.hid hB
          have hsz : w.heap.size ≤ Y.heap.size := hB.size
          clear hB
          go_wp2_with fail
          refine hKx.out _ _ ?_ (fun hHeld4 => ?_)
          · (try dsimp only); exact ⟨str_row [97, 193, 208, 67, 48] _ (by (focus (repeat (first | exact Row.new _ _ _ _ _ (by first | rfl | simp) rfl | refine Row.old ?_ | refine Row.drew ?_ | assumption | refine Row.keep (by assumption) ?_)))) rfl (by decide), by (focus (repeat (first | exact Row.new _ _ _ _ _ (by first | rfl | simp) rfl | refine Row.old ?_ | refine Row.drew ?_ | assumption | refine Row.keep (by assumption) ?_)))⟩
          clear hHeld3 hKx Kx
          try simp only [Act.put, List.getElem_toArray, List.getElem_cons_zero, List.getElem_cons_succ, List.setIfInBounds_toArray, List.set_cons_zero, List.set_cons_succ]
          refine wpAnyH_ready (rs := [2]) (by kernel_rfl) (by simp) ?_
          refine (AllReadyH.cons rfl (fun Kx hKx => ?_) AllReadyH.nil)
          go_simp
          go_at_call 9
          refine (cs1 _ _ ?_).mono ?_
          (focus (repeat (first | exact Row.new _ _ _ _ _ (by first | rfl | simp) rfl | refine Row.old ?_ | refine Row.drew ?_ | assumption | refine Row.keep (by assumption) ?_)))
          rintro e w1 ⟨he, hB⟩
          obtain ⟨M, hM⟩ : ∃ M, M = sum [49, 50, 51, 52, 53] := ⟨_, rfl⟩
          rw [← hM] at he
          subst he
          have HM := Lib.hid hM
          clear hM
          have hB0 : Below w.heap.size w w1 := Below.trans (by (focus (repeat (first | exact HB.out | refine bal ?_ | refine Below.drew ?_)))) (hB.mono (Below.size (by (focus (repeat (first | exact HB.out | refine bal ?_ | refine Below.drew ?_))))))
          have hK1 := Keeps.below hB
          have HB : Hid (Below w.heap.size w w1) := Lib.hid hB0
          have hsz : w.heap.size ≤ w1.heap.size := hB0.size
          clear hB hB0
          go_wp2_with fail
          refine hKx.out _ _ ?_ (fun hHeld5 => ?_)
          · (try dsimp only); exact ⟨str_row [97, 193, 208, 67, 48] _ (by (focus (repeat (first | exact Row.new _ _ _ _ _ (by first | rfl | simp) rfl | refine Row.old ?_ | refine Row.drew ?_ | assumption | refine Row.keep (by assumption) ?_)))) rfl (by decide), by (focus (repeat (first | exact Row.new _ _ _ _ _ (by first | rfl | simp) rfl | refine Row.old ?_ | refine Row.drew ?_ | assumption | refine Row.keep (by assumption) ?_)))⟩
          clear hHeld4 hKx Kx
          try simp only [Act.put, List.getElem_toArray, List.getElem_cons_zero, List.getElem_cons_succ, List.setIfInBounds_toArray, List.set_cons_zero, List.set_cons_succ]
          refine wpAnyH_ready (rs := [5]) (by kernel_rfl) (by simp) ?_
          refine (AllReadyH.cons rfl (fun Kx hKx => ?_) AllReadyH.nil)
          go_simp
          go_at_call 11
          refine (cu1 _ M HM.out _ ?_).mono ?_
          (focus (repeat (first | exact Row.new _ _ _ _ _ (by first | rfl | simp) rfl | refine Row.old ?_ | refine Row.drew ?_ | assumption | refine Row.keep (by assumption) ?_)))
          rintro e w1 ⟨⟨N, rfl, hN, hT⟩, hB⟩
          have hB0 : Below w.heap.size w w1 := Below.trans (by (focus (repeat (first | exact HB.out | refine bal ?_ | refine Below.drew ?_)))) (hB.mono (Below.size (by (focus (repeat (first | exact HB.out | refine bal ?_ | refine Below.drew ?_))))))
          have hK1 := Keeps.below hB
          have HB : Hid (Below w.heap.size w w1) := Lib.hid hB0
          have hsz : w.heap.size ≤ w1.heap.size := hB0.size
          clear hB hB0
          go_wp2_with fail
          refine hKx.out _ _ ?_ (fun hHeld6 => ?_)
          · (try dsimp only); exact ⟨str_row [97, 193, 208, 67, 48] _ (by (focus (repeat (first | exact Row.new _ _ _ _ _ (by first | rfl | simp) rfl | refine Row.old ?_ | refine Row.drew ?_ | assumption | refine Row.keep (by assumption) ?_)))) rfl (by decide), by (focus (repeat (first | exact Row.new _ _ _ _ _ (by first | rfl | simp) rfl | refine Row.old ?_ | refine Row.drew ?_ | assumption | refine Row.keep (by assumption) ?_)))⟩
          clear hHeld5 hKx Kx
          try simp only [Act.put, List.getElem_toArray, List.getElem_cons_zero, List.getElem_cons_succ, List.setIfInBounds_toArray, List.set_cons_zero, List.set_cons_succ]
          refine wpAnyH_ready (rs := [6]) (by kernel_rfl) (by simp) ?_
          refine (AllReadyH.cons rfl (fun Kx hKx => ?_) AllReadyH.nil)
          go_simp
          go_at_call 17
          with_reducible refine (text_any _ hN _ (HV.out.below HB.out (Nat.le_refl _)).bruijn).mono ?_
          rintro e w1 ⟨he, hB⟩
          rw [hT] at he
          subst he
          have hB0 : Below w.heap.size w w1 := Below.trans (by (focus (repeat (first | exact HB.out | refine bal ?_ | refine Below.drew ?_)))) (hB.mono (Below.size (by (focus (repeat (first | exact HB.out | refine bal ?_ | refine Below.drew ?_))))))
          have hK1 := Keeps.below hB
          have HB : Hid (Below w.heap.size w w1) := Lib.hid hB0
          have hsz : w.heap.size ≤ w1.heap.size := hB0.size
          clear hB hB0
          go_wp2_with fail
          refine hKx.out _ _ ?_ (fun hHeld7 => ?_)
          · (try dsimp only); exact ⟨str_row [97, 193, 208, 67, 48] _ (by (focus (repeat (first | exact Row.new _ _ _ _ _ (by first | rfl | simp) rfl | refine Row.old ?_ | refine Row.drew ?_ | assumption | refine Row.keep (by assumption) ?_)))) rfl (by decide), by (focus (repeat (first | exact Row.new _ _ _ _ _ (by first | rfl | simp) rfl | refine Row.old ?_ | refine Row.drew ?_ | assumption | refine Row.keep (by assumption) ?_)))⟩
          clear hHeld6 hKx Kx
          try simp only [Act.put, List.getElem_toArray, List.getElem_cons_zero, List.getElem_cons_succ, List.setIfInBounds_toArray, List.set_cons_zero, List.set_cons_succ]
          refine wpAnyH_take (i := 7) (v := ?_) rfl (by kernel_rfl) (by kernel_rfl) (by kernel_rfl) (fun _ _ _ h => h) (Or.inl ⟨by rfl, ?_⟩) (by assumption) ?_
          rotate_left
          · intro w hSw; (try dsimp only at hSw); go_simp; with_reducible rfl
          try simp only [Act.put, List.getElem_toArray, List.getElem_cons_zero, List.getElem_cons_succ, List.setIfInBounds_toArray, List.set_cons_zero, List.set_cons_succ]
          refine wpAnyH_take (i := 8) (v := ?_) rfl (by kernel_rfl) (by kernel_rfl) (by kernel_rfl) (fun _ _ _ h => h) (Or.inl ⟨by rfl, ?_⟩) (by assumption) ?_
          rotate_left
          · intro w hSw; (try dsimp only at hSw); go_simp; with_reducible rfl
          try simp only [Act.put, List.getElem_toArray, List.getElem_cons_zero, List.getElem_cons_succ, List.setIfInBounds_toArray, List.set_cons_zero, List.set_cons_succ]
          refine wpAnyH_take (i := 13) (v := ?_) rfl (by kernel_rfl) (by kernel_rfl) (by kernel_rfl) (fun _ _ _ h => h) (Or.inl ⟨by rfl, ?_⟩) (by assumption) ?_
          rotate_left
          · intro w hSw; (try dsimp only at hSw); go_simp; with_reducible rfl
          try simp only [Act.put, List.getElem_toArray, List.getElem_cons_zero, List.getElem_cons_succ, List.setIfInBounds_toArray, List.set_cons_zero, List.set_cons_succ]
          refine wpAnyH_take (i := 14) (v := ?_) rfl (by kernel_rfl) (by kernel_rfl) (by kernel_rfl) (fun _ _ _ h => h) (Or.inl ⟨by rfl, ?_⟩) (by assumption) ?_
          rotate_left
          · intro w hSw; (try dsimp only at hSw); go_simp; with_reducible rfl
          try simp only [Act.put, List.getElem_toArray, List.getElem_cons_zero, List.getElem_cons_succ, List.setIfInBounds_toArray, List.set_cons_zero, List.set_cons_succ]
          refine wpAnyH_ready (rs := [9]) (by kernel_rfl) (by simp) ?_
          refine (AllReadyH.cons rfl (fun Kx hKx => ?_) AllReadyH.nil)
          go_simp
          refine hKx.out _ _ ?_ (fun hHeld8 => ?_)
          · (try dsimp only); exact ⟨str_row [97, 193, 208, 67, 48] _ (by (focus (repeat (first | exact Row.new _ _ _ _ _ (by first | rfl | simp) rfl | refine Row.old ?_ | refine Row.drew ?_ | assumption | refine Row.keep (by assumption) ?_)))) rfl (by decide), by (focus (repeat (first | exact Row.new _ _ _ _ _ (by first | rfl | simp) rfl | refine Row.old ?_ | refine Row.drew ?_ | assumption | refine Row.keep (by assumption) ?_)))⟩
          clear hHeld7 hKx Kx
          try simp only [Act.put, List.getElem_toArray, List.getElem_cons_zero, List.getElem_cons_succ, List.setIfInBounds_toArray, List.set_cons_zero, List.set_cons_succ]
          refine wpAnyH_ready (rs := [10]) (by kernel_rfl) (by simp) ?_
          refine (AllReadyH.cons rfl (fun Kx hKx => ?_) AllReadyH.nil)
          go_simp
          with_reducible refine (upon1 (w0 := w) ?_ ?_ ?_ ?_)
          (focus (repeat (first | exact Row.new _ _ _ _ _ (by first | rfl | simp) rfl | refine Row.old ?_ | refine Row.drew ?_ | assumption | refine Row.keep (by assumption) ?_)))
          (focus (repeat (first | exact HB.out | refine bal ?_ | refine Below.drew ?_)))
          (focus (first | omega | (simp; omega)))
          intro Y hB hK
          have HB : Hid (Below w.heap.size w Y) := Lib.hid hB
          have hsz : w.heap.size ≤ Y.heap.size := hB.size
          clear hB
          go_wp2_with fail
          refine hKx.out _ _ ?_ (fun hHeld9 => ?_)
          · (try dsimp only); exact ⟨str_row [97, 193, 208, 67, 48] _ (by (focus (repeat (first | exact Row.new _ _ _ _ _ (by first | rfl | simp) rfl | refine Row.old ?_ | refine Row.drew ?_ | assumption | refine Row.keep (by assumption) ?_)))) rfl (by decide), by (focus (repeat (first | exact Row.new _ _ _ _ _ (by first | rfl | simp) rfl | refine Row.old ?_ | refine Row.drew ?_ | assumption | refine Row.keep (by assumption) ?_)))⟩
          clear hHeld8 hKx Kx
          try simp only [Act.put, List.getElem_toArray, List.getElem_cons_zero, List.getElem_cons_succ, List.setIfInBounds_toArray, List.set_cons_zero, List.set_cons_succ]
          refine wpAnyH_ready (rs := [11]) (by kernel_rfl) (by simp) ?_
          refine (AllReadyH.cons rfl (fun Kx hKx => ?_) AllReadyH.nil)
          go_simp
          go_at_call 13
          refine (ca1 _ _ ?_).mono ?_
          (focus (repeat (first | exact Row.new _ _ _ _ _ (by first | rfl | simp) rfl | refine Row.old ?_ | refine Row.drew ?_ | assumption | refine Row.keep (by assumption) ?_)))
          rintro e w1 ⟨⟨v, rfl, hcv⟩, hB⟩
          have hB0 : Below w.heap.size w w1 := Below.trans (by (focus (repeat (first | exact HB.out | refine bal ?_ | refine Below.drew ?_)))) (hB.mono (Below.size (by (focus (repeat (first | exact HB.out | refine bal ?_ | refine Below.drew ?_))))))
          have hK1 := Keeps.below hB
          have HB : Hid (Below w.heap.size w w1) := Lib.hid hB0
          have hsz : w.heap.size ≤ w1.heap.size := hB0.size
          clear hB hB0
          go_wp2_with fail
          refine hKx.out _ _ ?_ (fun hHeld10 => ?_)
          · (try dsimp only); exact ⟨str_row [97, 193, 208, 67, 48] _ (by (focus (repeat (first | exact Row.new _ _ _ _ _ (by first | rfl | simp) rfl | refine Row.old ?_ | refine Row.drew ?_ | assumption | refine Row.keep (by assumption) ?_)))) rfl (by decide), by (focus (repeat (first | exact Row.new _ _ _ _ _ (by first | rfl | simp) rfl | refine Row.old ?_ | refine Row.drew ?_ | assumption | refine Row.keep (by assumption) ?_)))⟩
          clear hHeld9 hKx Kx
          try simp only [Act.put, List.getElem_toArray, List.getElem_cons_zero, List.getElem_cons_succ, List.setIfInBounds_toArray, List.set_cons_zero, List.set_cons_succ]
          refine wpAnyH_ready (rs := [12]) (by kernel_rfl) (by simp) ?_
          refine (AllReadyH.cons rfl (fun Kx hKx => ?_) AllReadyH.nil)
          go_simp
          refine hKx.out _ _ ?_ (fun hHeld11 => ?_)
          · (try dsimp only); exact ⟨str_row [97, 193, 208, 67, 48] _ (by (focus (repeat (first | exact Row.new _ _ _ _ _ (by first | rfl | simp) rfl | refine Row.old ?_ | refine Row.drew ?_ | assumption | refine Row.keep (by assumption) ?_)))) rfl (by decide), by (focus (repeat (first | exact Row.new _ _ _ _ _ (by first | rfl | simp) rfl | refine Row.old ?_ | refine Row.drew ?_ | assumption | refine Row.keep (by assumption) ?_)))⟩
          clear hHeld10 hKx Kx
          try simp only [Act.put, List.getElem_toArray, List.getElem_cons_zero, List.getElem_cons_succ, List.setIfInBounds_toArray, List.set_cons_zero, List.set_cons_succ]
          refine wpAnyH_take (i := 15) (v := ?_) rfl (by kernel_rfl) (by kernel_rfl) (by kernel_rfl) (fun _ _ _ h => h) (Or.inl ⟨by rfl, ?_⟩) (by assumption) ?_
          rotate_left
          · intro w hSw; (try dsimp only at hSw); go_simp; with_reducible rfl
          try simp only [Act.put, List.getElem_toArray, List.getElem_cons_zero, List.getElem_cons_succ, List.setIfInBounds_toArray, List.set_cons_zero, List.set_cons_succ]
          refine wpAnyH_take (i := 16) (v := ?_) rfl (by kernel_rfl) (by kernel_rfl) (by kernel_rfl) (fun _ _ _ h => h) (Or.inl ⟨by rfl, ?_⟩) (by assumption) ?_
          rotate_left
          · intro w hSw; (try dsimp only at hSw); go_simp; with_reducible rfl
          try simp only [Act.put, List.getElem_toArray, List.getElem_cons_zero, List.getElem_cons_succ, List.setIfInBounds_toArray, List.set_cons_zero, List.set_cons_succ]
          refine wpAnyH_take (i := 17) (v := ?_) rfl (by kernel_rfl) (by kernel_rfl) (by kernel_rfl) (fun _ _ _ h => h) (Or.inl ⟨by rfl, ?_⟩) (by assumption) ?_
          rotate_left
          · intro w hSw; (try dsimp only at hSw); go_simp; with_reducible rfl
          try simp only [Act.put, List.getElem_toArray, List.getElem_cons_zero, List.getElem_cons_succ, List.setIfInBounds_toArray, List.set_cons_zero, List.set_cons_succ]
          refine wpAnyH_take (i := 18) (v := ?_) rfl (by kernel_rfl) (by kernel_rfl) (by kernel_rfl) (fun _ _ _ h => h) (Or.inl ⟨by rfl, ?_⟩) (by assumption) ?_
          rotate_left
          · intro w hSw; (try dsimp only at hSw); go_simp; with_reducible rfl
          try simp only [Act.put, List.getElem_toArray, List.getElem_cons_zero, List.getElem_cons_succ, List.setIfInBounds_toArray, List.set_cons_zero, List.set_cons_succ]
          refine wpAnyH_ready (rs := [19]) (by kernel_rfl) (by simp) ?_
          refine (AllReadyH.cons rfl (fun Kx hKx => ?_) AllReadyH.nil)
          go_simp
          refine hKx.out _ _ ?_ (fun hHeld12 => ?_)
          · (try dsimp only); exact ⟨str_row [97, 193, 208, 67, 48] _ (by (focus (repeat (first | exact Row.new _ _ _ _ _ (by first | rfl | simp) rfl | refine Row.old ?_ | refine Row.drew ?_ | assumption | refine Row.keep (by assumption) ?_)))) rfl (by decide), by (focus (repeat (first | exact Row.new _ _ _ _ _ (by first | rfl | simp) rfl | refine Row.old ?_ | refine Row.drew ?_ | assumption | refine Row.keep (by assumption) ?_)))⟩
          clear hHeld11 hKx Kx
          try simp only [Act.put, List.getElem_toArray, List.getElem_cons_zero, List.getElem_cons_succ, List.setIfInBounds_toArray, List.set_cons_zero, List.set_cons_succ]
          refine wpAnyH_ready (rs := [20]) (by kernel_rfl) (by simp) ?_
          refine (AllReadyH.cons rfl (fun Kx hKx => ?_) AllReadyH.nil)
          go_simp
          go_at_call 15
          refine (co1 _ _ _ ?_ ?_).mono ?_
          (focus (repeat (first | exact Row.new _ _ _ _ _ (by first | rfl | simp) rfl | refine Row.old ?_ | refine Row.drew ?_ | assumption | refine Row.keep (by assumption) ?_)))
          (focus (repeat (first | exact Row.new _ _ _ _ _ (by first | rfl | simp) rfl | refine Row.old ?_ | refine Row.drew ?_ | assumption | refine Row.keep (by assumption) ?_)))
          rintro e w1 ⟨rfl, hB⟩
          have hB0 : Below w.heap.size w w1 := Below.trans (by (focus (repeat (first | exact HB.out | refine bal ?_ | refine Below.drew ?_)))) (hB.mono (Below.size (by (focus (repeat (first | exact HB.out | refine bal ?_ | refine Below.drew ?_))))))
          have hK1 := Keeps.below hB
          have HB : Hid (Below w.heap.size w w1) := Lib.hid hB0
          have hsz : w.heap.size ≤ w1.heap.size := hB0.size
          clear hB hB0
          go_wp2_with fail
          refine hKx.out _ _ ?_ (fun hHeld13 => ?_)
          · (try dsimp only); exact ⟨str_row [97, 193, 208, 67, 48] _ (by (focus (repeat (first | exact Row.new _ _ _ _ _ (by first | rfl | simp) rfl | refine Row.old ?_ | refine Row.drew ?_ | assumption | refine Row.keep (by assumption) ?_)))) rfl (by decide), by (focus (repeat (first | exact Row.new _ _ _ _ _ (by first | rfl | simp) rfl | refine Row.old ?_ | refine Row.drew ?_ | assumption | refine Row.keep (by assumption) ?_)))⟩
          clear hHeld12 hKx Kx
          try simp only [Act.put, List.getElem_toArray, List.getElem_cons_zero, List.getElem_cons_succ, List.setIfInBounds_toArray, List.set_cons_zero, List.set_cons_succ]
          refine wpAnyH_take (i := 21) (v := ?_) rfl (by kernel_rfl) (by kernel_rfl) (by kernel_rfl) (fun _ _ _ h => h) (Or.inl ⟨by rfl, ?_⟩) (by assumption) ?_
          rotate_left
          · intro w hSw; (try dsimp only at hSw); go_simp; with_reducible rfl
          try simp only [Act.put, List.getElem_toArray, List.getElem_cons_zero, List.getElem_cons_succ, List.setIfInBounds_toArray, List.set_cons_zero, List.set_cons_succ]
          refine wpAnyH_take (i := 22) (v := ?_) rfl (by kernel_rfl) (by kernel_rfl) (by kernel_rfl) (fun _ _ _ h => h) (Or.inl ⟨by rfl, ?_⟩) (by assumption) ?_
          rotate_left
          · intro w hSw; (try dsimp only at hSw); go_simp; with_reducible rfl
          try simp only [Act.put, List.getElem_toArray, List.getElem_cons_zero, List.getElem_cons_succ, List.setIfInBounds_toArray, List.set_cons_zero, List.set_cons_succ]
          refine wpAnyH_done (by kernel_rfl) ?_ _
          refine NoPanic.normal ?_
          go_wp2_with (first
            | (go_at_call 15; with_reducible refine (ko_nil _).mono ?_; rintro e w1 ⟨rfl, hB⟩; have HB : Hid (Below w.heap.size w w1) := Lib.hid (HB.out.trans (hB.mono HB.out.size)); clear hB)
            | (go_at_call 15; with_reducible refine (ko_z _).mono ?_; rintro e w1 ⟨rfl, hB⟩; have HB : Hid (Below w.heap.size w w1) := Lib.hid (HB.out.trans (hB.mono HB.out.size)); clear hB)
            | (go_at_call 15; with_reducible refine (ko_o _).mono ?_; rintro e w1 ⟨rfl, hB⟩; have HB : Hid (Below w.heap.size w w1) := Lib.hid (HB.out.trans (hB.mono HB.out.size)); clear hB)
            | (go_at_call 15; with_reducible refine (ko_c _).mono ?_; rintro e w1 ⟨rfl, hB⟩; have HB : Hid (Below w.heap.size w w1) := Lib.hid (HB.out.trans (hB.mono HB.out.size)); clear hB)
            | (go_at_call 20; with_reducible refine (kp_l _ (HV.out.below HB.out (Nat.le_refl _))).mono ?_; rintro e w1 ⟨rfl, hB⟩; have HB : Hid (Below w.heap.size w w1) := Lib.hid (HB.out.trans (hB.mono HB.out.size)); clear hB)
            | (go_at_call 20; with_reducible refine (kp_u _ (HV.out.below HB.out (Nat.le_refl _))).mono ?_; rintro e w1 ⟨rfl, hB⟩; have HB : Hid (Below w.heap.size w w1) := Lib.hid (HB.out.trans (hB.mono HB.out.size)); clear hB))
          go_ret
          exact ⟨rfl, HB.out⟩
      · go_simp
        with_reducible refine (upon4 (w0 := w) ?_ ?_ ?_ ?_)
        (focus (repeat (first | exact Row.new _ _ _ _ _ (by first | rfl | simp) rfl | refine Row.old ?_ | refine Row.drew ?_ | assumption | refine Row.keep (by assumption) ?_)))
        (focus (repeat (first | exact HB.out | refine bal ?_ | refine Below.drew ?_)))
        (focus (first | omega | (simp; omega)))
        intro Y hB hK
        have HB : Hid (Below w.heap.size w Y) := Lib.hid hB
        have hsz : w.heap.size ≤ Y.heap.size := hB.size
        clear hB
        go_wp2_with fail
        refine hKx.out _ _ ?_ (fun hHeld3 => ?_)
        · (try dsimp only); exact ⟨str_row [97, 193, 208, 67, 48] _ (by (focus (repeat (first | exact Row.new _ _ _ _ _ (by first | rfl | simp) rfl | refine Row.old ?_ | refine Row.drew ?_ | assumption | refine Row.keep (by assumption) ?_)))) rfl (by decide), by (focus (repeat (first | exact Row.new _ _ _ _ _ (by first | rfl | simp) rfl | refine Row.old ?_ | refine Row.drew ?_ | assumption | refine Row.keep (by assumption) ?_)))⟩
        clear hHeld2 hKx Kx
        try simp only [Act.put, List.getElem_toArray, List.getElem_cons_zero, List.getElem_cons_succ, List.setIfInBounds_toArray, List.set_cons_zero, List.set_cons_succ]
        refine wpAnyH_ready (rs := [1]) (by kernel_rfl) (by simp) ?_
        refine (AllReadyH.cons rfl (fun Kx hKx => ?_) AllReadyH.nil)
        go_simp
        with_reducible refine (upon5 (w0 := w) ?_ ?_ ?_ ?_)
        (focus (repeat (first | exact Row.new _ _ _ _ _ (by first | rfl | simp) rfl | refine Row.old ?_ | refine Row.drew ?_ | assumption | refine Row.keep (by assumption) ?_)))
        (focus (repeat (first | exact HB.out | refine bal ?_ | refine Below.drew ?_)))
        (focus (first | omega | (simp; omega)))
        intro Y hB hK
        have HB : Hid (Below w.heap.size w Y) := Lib.hid hB
        have hsz : w.heap.size ≤ Y.heap.size := hB.size
        clear hB
        go_wp2_with fail
        refine hKx.out _ _ ?_ (fun hHeld4 => ?_)
        · (try dsimp only); exact ⟨str_row [97, 193, 208, 67, 48] _ (by (focus (repeat (first | exact Row.new _ _ _ _ _ (by first | rfl | simp) rfl | refine Row.old ?_ | refine Row.drew ?_ | assumption | refine Row.keep (by assumption) ?_)))) rfl (by decide), by (focus (repeat (first | exact Row.new _ _ _ _ _ (by first | rfl | simp) rfl | refine Row.old ?_ | refine Row.drew ?_ | assumption | refine Row.keep (by assumption) ?_)))⟩
        clear hHeld3 hKx Kx
        try simp only [Act.put, List.getElem_toArray, List.getElem_cons_zero, List.getElem_cons_succ, List.setIfInBounds_toArray, List.set_cons_zero, List.set_cons_succ]
        refine wpAnyH_ready (rs := [2]) (by kernel_rfl) (by simp) ?_
        refine (AllReadyH.cons rfl (fun Kx hKx => ?_) AllReadyH.nil)
        go_simp
        go_at_call 9
        refine (cs1 _ _ ?_).mono ?_
        (focus (repeat (first | exact Row.new _ _ _ _ _ (by first | rfl | simp) rfl | refine Row.old ?_ | refine Row.drew ?_ | assumption | refine Row.keep (by assumption) ?_)))
        rintro e w1 ⟨he, hB⟩
        obtain ⟨M, hM⟩ : ∃ M, M = sum [49, 50, 51, 52, 53] := ⟨_, rfl⟩
        rw [← hM] at he
        subst he
        have HM := Lib.hid hM
        clear hM
        have hB0 : Below w.heap.size w w1 := Below.trans (by (focus (repeat (first | exact HB.out | refine bal ?_ | refine Below.drew ?_)))) (hB.mono (Below.size (by (focus (repeat (first | exact HB.out | refine bal ?_ | refine Below.drew ?_))))))
        have hK1 := Keeps.below hB
        have HB : Hid (Below w.heap.size w w1) := Lib.hid hB0
        have hsz : w.heap.size ≤ w1.heap.size := hB0.size
        clear hB hB0
        go_wp2_with fail
        refine hKx.out _ _ ?_ (fun hHeld5 => ?_)
        · (try dsimp only); exact ⟨str_row [97, 193, 208, 67, 48] _ (by (focus (repeat (first | exact Row.new _ _ _ _ _ (by first | rfl | simp) rfl | refine Row.old ?_ | refine Row.drew ?_ | assumption | refine Row.keep (by assumption) ?_)))) rfl (by decide), by (focus (repeat (first | exact Row.new _ _ _ _ _ (by first | rfl | simp) rfl | refine Row.old ?_ | refine Row.drew ?_ | assumption | refine Row.keep (by assumption) ?_)))⟩
        clear hHeld4 hKx Kx
        try simp only [Act.put, List.getElem_toArray, List.getElem_cons_zero, List.getElem_cons_succ, List.setIfInBounds_toArray, List.set_cons_zero, List.set_cons_succ]
        refine wpAnyH_ready (rs := [5]) (by kernel_rfl) (by simp) ?_
        refine (AllReadyH.cons rfl (fun Kx hKx => ?_) AllReadyH.nil)
        go_simp
        go_at_call 11
        refine (cu1 _ M HM.out _ ?_).mono ?_
        (focus (repeat (first | exact Row.new _ _ _ _ _ (by first | rfl | simp) rfl | refine Row.old ?_ | refine Row.drew ?_ | assumption | refine Row.keep (by assumption) ?_)))
        rintro e w1 ⟨⟨N, rfl, hN, hT⟩, hB⟩
        have hB0 : Below w.heap.size w w1 := Below.trans (by (focus (repeat (first | exact HB.out | refine bal ?_ | refine Below.drew ?_)))) (hB.mono (Below.size (by (focus (repeat (first | exact HB.out | refine bal ?_ | refine Below.drew ?_))))))
        have hK1 := Keeps.below hB
        have HB : Hid (Below w.heap.size w w1) := Lib.hid hB0
        have hsz : w.heap.size ≤ w1.heap.size := hB0.size
        clear hB hB0
        go_wp2_with fail
        refine hKx.out _ _ ?_ (fun hHeld6 => ?_)
        · (try dsimp only); exact ⟨str_row [97, 193, 208, 67, 48] _ (by (focus (repeat (first | exact Row.new _ _ _ _ _ (by first | rfl | simp) rfl | refine Row.old ?_ | refine Row.drew ?_ | assumption | refine Row.keep (by assumption) ?_)))) rfl (by decide), by (focus (repeat (first | exact Row.new _ _ _ _ _ (by first | rfl | simp) rfl | refine Row.old ?_ | refine Row.drew ?_ | assumption | refine Row.keep (by assumption) ?_)))⟩
        clear hHeld5 hKx Kx
        try simp only [Act.put, List.getElem_toArray, List.getElem_cons_zero, List.getElem_cons_succ, List.setIfInBounds_toArray, List.set_cons_zero, List.set_cons_succ]
        refine wpAnyH_ready (rs := [6]) (by kernel_rfl) (by simp) ?_
        refine (AllReadyH.cons rfl (fun Kx hKx => ?_) AllReadyH.nil)
        go_simp
        go_at_call 17
        with_reducible refine (text_any _ hN _ (HV.out.below HB.out (Nat.le_refl _)).bruijn).mono ?_
        rintro e w1 ⟨he, hB⟩
        rw [hT] at he
        subst he
        have hB0 : Below w.heap.size w w1 := Below.trans (by (focus (repeat (first | exact HB.out | refine bal ?_ | refine Below.drew ?_)))) (hB.mono (Below.size (by (focus (repeat (first | exact HB.out | refine bal ?_ | refine Below.drew ?_))))))
        have hK1 := Keeps.below hB
        have HB : Hid (Below w.heap.size w w1) := Lib.hid hB0
        have hsz : w.heap.size ≤ w1.heap.size := hB0.size
        clear hB hB0
        go_wp2_with fail
        refine hKx.out _ _ ?_ (fun hHeld7 => ?_)
        · (try dsimp only); exact ⟨str_row [97, 193, 208, 67, 48] _ (by (focus (repeat (first | exact Row.new _ _ _ _ _ (by first | rfl | simp) rfl | refine Row.old ?_ | refine Row.drew ?_ | assumption | refine Row.keep (by assumption) ?_)))) rfl (by decide), by (focus (repeat (first | exact Row.new _ _ _ _ _ (by first | rfl | simp) rfl | refine Row.old ?_ | refine Row.drew ?_ | assumption | refine Row.keep (by assumption) ?_)))⟩
        clear hHeld6 hKx Kx
        try simp only [Act.put, List.getElem_toArray, List.getElem_cons_zero, List.getElem_cons_succ, List.setIfInBounds_toArray, List.set_cons_zero, List.set_cons_succ]
        refine wpAnyH_take (i := 7) (v := ?_) rfl (by kernel_rfl) (by kernel_rfl) (by kernel_rfl) (fun _ _ _ h => h) (Or.inl ⟨by rfl, ?_⟩) (by assumption) ?_
        rotate_left
        · intro w hSw; (try dsimp only at hSw); go_simp; with_reducible rfl
        try simp only [Act.put, List.getElem_toArray, List.getElem_cons_zero, List.getElem_cons_succ, List.setIfInBounds_toArray, List.set_cons_zero, List.set_cons_succ]
        refine wpAnyH_take (i := 8) (v := ?_) rfl (by kernel_rfl) (by kernel_rfl) (by kernel_rfl) (fun _ _ _ h => h) (Or.inl ⟨by rfl, ?_⟩) (by assumption) ?_
        rotate_left
        · intro w hSw; (try dsimp only at hSw); go_simp; with_reducible rfl
        try simp only [Act.put, List.getElem_toArray, List.getElem_cons_zero, List.getElem_cons_succ, List.setIfInBounds_toArray, List.set_cons_zero, List.set_cons_succ]
        refine wpAnyH_take (i := 13) (v := ?_) rfl (by kernel_rfl) (by kernel_rfl) (by kernel_rfl) (fun _ _ _ h => h) (Or.inl ⟨by rfl, ?_⟩) (by assumption) ?_
        rotate_left
        · intro w hSw; (try dsimp only at hSw); go_simp; with_reducible rfl
        try simp only [Act.put, List.getElem_toArray, List.getElem_cons_zero, List.getElem_cons_succ, List.setIfInBounds_toArray, List.set_cons_zero, List.set_cons_succ]
        refine wpAnyH_take (i := 14) (v := ?_) rfl (by kernel_rfl) (by kernel_rfl) (by kernel_rfl) (fun _ _ _ h => h) (Or.inl ⟨by rfl, ?_⟩) (by assumption) ?_
        rotate_left
        · intro w hSw; (try dsimp only at hSw); go_simp; with_reducible rfl
        try simp only [Act.put, List.getElem_toArray, List.getElem_cons_zero, List.getElem_cons_succ, List.setIfInBounds_toArray, List.set_cons_zero, List.set_cons_succ]
        refine wpAnyH_ready (rs := [9]) (by kernel_rfl) (by simp) ?_
        refine (AllReadyH.cons rfl (fun Kx hKx => ?_) AllReadyH.nil)
        go_simp
        refine hKx.out _ _ ?_ (fun hHeld8 => ?_)
        · (try dsimp only); exact ⟨str_row [97, 193, 208, 67, 48] _ (by (focus (repeat (first | exact Row.new _ _ _ _ _ (by first | rfl | simp) rfl | refine Row.old ?_ | refine Row.drew ?_ | assumption | refine Row.keep (by assumption) ?_)))) rfl (by decide), by (focus (repeat (first | exact Row.new _ _ _ _ _ (by first | rfl | simp) rfl | refine Row.old ?_ | refine Row.drew ?_ | assumption | refine Row.keep (by assumption) ?_)))⟩
        clear hHeld7 hKx Kx
        try simp only [Act.put, List.getElem_toArray, List.getElem_cons_zero, List.getElem_cons_succ, List.setIfInBounds_toArray, List.set_cons_zero, List.set_cons_succ]
        refine wpAnyH_ready (rs := [10]) (by kernel_rfl) (by simp) ?_
        refine (AllReadyH.cons rfl (fun Kx hKx => ?_) AllReadyH.nil)
        go_simp
        with_reducible refine (upon1 (w0 := w) ?_ ?_ ?_ ?_)
        (focus (repeat (first | exact Row.new _ _ _ _ _ (by first | rfl | simp) rfl | refine Row.old ?_ | refine Row.drew ?_ | assumption | refine Row.keep (by assumption) ?_)))
        (focus (repeat (first | exact HB.out | refine bal ?_ | refine Below.drew ?_)))
        (focus (first | omega | (simp; omega)))
        intro Y hB hK
        have HB : Hid (Below w.heap.size w Y) := Lib.hid hB
        have hsz : w.heap.size ≤ Y.heap.size := hB.size
        clear hB
        go_wp2_with fail
        refine hKx.out _ _ ?_ (fun hHeld9 => ?_)
        · (try dsimp only); exact ⟨str_row [97, 193, 208, 67, 48] _ (by (focus (repeat (first | exact Row.new _ _ _ _ _ (by first | rfl | simp) rfl | refine Row.old ?_ | refine Row.drew ?_ | assumption | refine Row.keep (by assumption) ?_)))) rfl (by decide), by (focus (repeat (first | exact Row.new _ _ _ _ _ (by first | rfl | simp) rfl | refine Row.old ?_ | refine Row.drew ?_ | assumption | refine Row.keep (by assumption) ?_)))⟩
        clear hHeld8 hKx Kx
        try simp only [Act.put, List.getElem_toArray, List.getElem_cons_zero, List.getElem_cons_succ, List.setIfInBounds_toArray, List.set_cons_zero, List.set_cons_succ]
        refine wpAnyH_ready (rs := [11]) (by kernel_rfl) (by simp) ?_
        refine (AllReadyH.cons rfl (fun Kx hKx => ?_) AllReadyH.nil)
        go_simp
        go_at_call 13
        refine (ca1 _ _ ?_).mono ?_
        (focus (repeat (first | exact Row.new _ _ _ _ _ (by first | rfl | simp) rfl | refine Row.old ?_ | refine Row.drew ?_ | assumption | refine Row.keep (by assumption) ?_)))
        rintro e w1 ⟨⟨v, rfl, hcv⟩, hB⟩
        have hB0 : Below w.heap.size w w1 := Below.trans (by (focus (repeat (first | exact HB.out | refine bal ?_ | refine Below.drew ?_)))) (hB.mono (Below.size (by (focus (repeat (first | exact HB.out | refine bal ?_ | refine Below.drew ?_))))))
        have hK1 := Keeps.below hB
        have HB : Hid (Below w.heap.size w w1) := Lib.hid hB0
        have hsz : w.heap.size ≤ w1.heap.size := hB0.size
        clear hB hB0
        go_wp2_with fail
        refine hKx.out _ _ ?_ (fun hHeld10 => ?_)
        · (try dsimp only); exact ⟨str_row [97, 193, 208, 67, 48] _ (by (focus (repeat (first | exact Row.new _ _ _ _ _ (by first | rfl | simp) rfl | refine Row.old ?_ | refine Row.drew ?_ | assumption | refine Row.keep (by assumption) ?_)))) rfl (by decide), by (focus (repeat (first | exact Row.new _ _ _ _ _ (by first | rfl | simp) rfl | refine Row.old ?_ | refine Row.drew ?_ | assumption | refine Row.keep (by assumption) ?_)))⟩
        clear hHeld9 hKx Kx
        try simp only [Act.put, List.getElem_toArray, List.getElem_cons_zero, List.getElem_cons_succ, List.setIfInBounds_toArray, List.set_cons_zero, List.set_cons_succ]
        refine wpAnyH_ready (rs := [12]) (by kernel_rfl) (by simp) ?_
        refine (AllReadyH.cons rfl (fun Kx hKx => ?_) AllReadyH.nil)
        go_simp
        refine hKx.out _ _ ?_ (fun hHeld11 => ?_)
        · (try dsimp only); exact ⟨str_row [97, 193, 208, 67, 48] _ (by (focus (repeat (first | exact Row.new _ _ _ _ _ (by first | rfl | simp) rfl | refine Row.old ?_ | refine Row.drew ?_ | assumption | refine Row.keep (by assumption) ?_)))) rfl (by decide), by (focus (repeat (first | exact Row.new _ _ _ _ _ (by first | rfl | simp) rfl | refine Row.old ?_ | refine Row.drew ?_ | assumption | refine Row.keep (by assumption) ?_)))⟩
        clear hHeld10 hKx Kx
        try simp only [Act.put, List.getElem_toArray, List.getElem_cons_zero, List.getElem_cons_succ, List.setIfInBounds_toArray, List.set_cons_zero, List.set_cons_succ]
        refine wpAnyH_take (i := 15) (v := ?_) rfl (by kernel_rfl) (by kernel_rfl) (by kernel_rfl) (fun _ _ _ h => h) (Or.inl ⟨by rfl, ?_⟩) (by assumption) ?_
        rotate_left
        · intro w hSw; (try dsimp only at hSw); go_simp; with_reducible rfl
        try simp only [Act.put, List.getElem_toArray, List.getElem_cons_zero, List.getElem_cons_succ, List.setIfInBounds_toArray, List.set_cons_zero, List.set_cons_succ]
        refine wpAnyH_take (i := 16) (v := ?_) rfl (by kernel_rfl) (by kernel_rfl) (by kernel_rfl) (fun _ _ _ h => h) (Or.inl ⟨by rfl, ?_⟩) (by assumption) ?_
        rotate_left
        · intro w hSw; (try dsimp only at hSw); go_simp; with_reducible rfl
        try simp only [Act.put, List.getElem_toArray, List.getElem_cons_zero, List.getElem_cons_succ, List.setIfInBounds_toArray, List.set_cons_zero, List.set_cons_succ]
        refine wpAnyH_take (i := 17) (v := ?_) rfl (by kernel_rfl) (by kernel_rfl) (by kernel_rfl) (fun _ _ _ h => h) (Or.inl ⟨by rfl, ?_⟩) (by assumption) ?_
        rotate_left
        · intro w hSw; (try dsimp only at hSw); go_simp; with_reducible rfl
        try simp only [Act.put, List.getElem_toArray, List.getElem_cons_zero, List.getElem_cons_succ, List.setIfInBounds_toArray, List.set_cons_zero, List.set_cons_succ]
        refine wpAnyH_take (i := 18) (v := ?_) rfl (by kernel_rfl) (by kernel_rfl) (by kernel_rfl) (fun _ _ _ h => h) (Or.inl ⟨by rfl, ?_⟩) (by assumption) ?_
        rotate_left
        · intro w hSw; (try dsimp only at hSw); go_simp; with_reducible rfl
        try simp only [Act.put, List.getElem_toArray, List.getElem_cons_zero, List.getElem_cons_succ, List.setIfInBounds_toArray, List.set_cons_zero, List.set_cons_succ]
        refine wpAnyH_ready (rs := [19]) (by kernel_rfl) (by simp) ?_
        refine (AllReadyH.cons rfl (fun Kx hKx => ?_) AllReadyH.nil)
        go_simp
        refine hKx.out _ _ ?_ (fun hHeld12 => ?_)
        · (try dsimp only); exact ⟨str_row [97, 193, 208, 67, 48] _ (by (focus (repeat (first | exact Row.new _ _ _ _ _ (by first | rfl | simp) rfl | refine Row.old ?_ | refine Row.drew ?_ | assumption | refine Row.keep (by assumption) ?_)))) rfl (by decide), by (focus (repeat (first | exact Row.new _ _ _ _ _ (by first | rfl | simp) rfl | refine Row.old ?_ | refine Row.drew ?_ | assumption | refine Row.keep (by assumption) ?_)))⟩
        clear hHeld11 hKx Kx
        try simp only [Act.put, List.getElem_toArray, List.getElem_cons_zero, List.getElem_cons_succ, List.setIfInBounds_toArray, List.set_cons_zero, List.set_cons_succ]
        refine wpAnyH_ready (rs := [20]) (by kernel_rfl) (by simp) ?_
        refine (AllReadyH.cons rfl (fun Kx hKx => ?_) AllReadyH.nil)
        go_simp
        go_at_call 15
        refine (co1 _ _ _ ?_ ?_).mono ?_
        (focus (repeat (first | exact Row.new _ _ _ _ _ (by first | rfl | simp) rfl | refine Row.old ?_ | refine Row.drew ?_ | assumption | refine Row.keep (by assumption) ?_)))
        (focus (repeat (first | exact Row.new _ _ _ _ _ (by first | rfl | simp) rfl | refine Row.old ?_ | refine Row.drew ?_ | assumption | refine Row.keep (by assumption) ?_)))
        rintro e w1 ⟨rfl, hB⟩
        have hB0 : Below w.heap.size w w1 := Below.trans (by (focus (repeat (first | exact HB.out | refine bal ?_ | refine Below.drew ?_)))) (hB.mono (Below.size (by (focus (repeat (first | exact HB.out | refine bal ?_ | refine Below.drew ?_))))))
        have hK1 := Keeps.below hB
        have HB : Hid (Below w.heap.size w w1) := Lib.hid hB0
        have hsz : w.heap.size ≤ w1.heap.size := hB0.size
        clear hB hB0
        go_wp2_with fail
        refine hKx.out _ _ ?_ (fun hHeld13 => ?_)
        · (try dsimp only); exact ⟨str_row [97, 193, 208, 67, 48] _ (by (focus (repeat (first | exact Row.new _ _ _ _ _ (by first | rfl | simp) rfl | refine Row.old ?_ | refine Row.drew ?_ | assumption | refine Row.keep (by assumption) ?_)))) rfl (by decide), by (focus (repeat (first | exact Row.new _ _ _ _ _ (by first | rfl | simp) rfl | refine Row.old ?_ | refine Row.drew ?_ | assumption | refine Row.keep (by assumption) ?_)))⟩
        clear hHeld12 hKx Kx
        try simp only [Act.put, List.getElem_toArray, List.getElem_cons_zero, List.getElem_cons_succ, List.setIfInBounds_toArray, List.set_cons_zero, List.set_cons_succ]
        refine wpAnyH_take (i := 21) (v := ?_) rfl (by kernel_rfl) (by kernel_rfl) (by kernel_rfl) (fun _ _ _ h => h) (Or.inl ⟨by rfl, ?_⟩) (by assumption) ?_
        rotate_left
        · intro w hSw; (try dsimp only at hSw); go_simp; with_reducible rfl
        try simp only [Act.put, List.getElem_toArray, List.getElem_cons_zero, List.getElem_cons_succ, List.setIfInBounds_toArray, List.set_cons_zero, List.set_cons_succ]
        refine wpAnyH_take (i := 22) (v := ?_) rfl (by kernel_rfl) (by kernel_rfl) (by kernel_rfl) (fun _ _ _ h => h) (Or.inl ⟨by rfl, ?_⟩) (by assumption) ?_
        rotate_left
        · intro w hSw; (try dsimp only at hSw); go_simp; with_reducible rfl
        try simp only [Act.put, List.getElem_toArray, List.getElem_cons_zero, List.getElem_cons_succ, List.setIfInBounds_toArray, List.set_cons_zero, List.set_cons_succ]
        refine wpAnyH_done (by kernel_rfl) ?_ _
        refine NoPanic.normal ?_
        go_wp2_with (first
          | (go_at_call 15; with_reducible refine (ko_nil _).mono ?_; rintro e w1 ⟨rfl, hB⟩; have HB : Hid (Below w.heap.size w w1) := Lib.hid (HB.out.trans (hB.mono HB.out.size)); clear hB)
          | (go_at_call 15; with_reducible refine (ko_z _).mono ?_; rintro e w1 ⟨rfl, hB⟩; have HB : Hid (Below w.heap.size w w1) := Lib.hid (HB.out.trans (hB.mono HB.out.size)); clear hB)
          | (go_at_call 15; with_reducible refine (ko_o _).mono ?_; rintro e w1 ⟨rfl, hB⟩; have HB : Hid (Below w.heap.size w w1) := Lib.hid (HB.out.trans (hB.mono HB.out.size)); clear hB)
          | (go_at_call 15; with_reducible refine (ko_c _).mono ?_; rintro e w1 ⟨rfl, hB⟩; have HB : Hid (Below w.heap.size w w1) := Lib.hid (HB.out.trans (hB.mono HB.out.size)); clear hB)
          | (go_at_call 20; with_reducible refine (kp_l _ (HV.out.below HB.out (Nat.le_refl _))).mono ?_; rintro e w1 ⟨rfl, hB⟩; have HB : Hid (Below w.heap.size w w1) := Lib.hid (HB.out.trans (hB.mono HB.out.size)); clear hB)
          | (go_at_call 20; with_reducible refine (kp_u _ (HV.out.below HB.out (Nat.le_refl _))).mono ?_; rintro e w1 ⟨rfl, hB⟩; have HB : Hid (Below w.heap.size w w1) := Lib.hid (HB.out.trans (hB.mono HB.out.size)); clear hB))
        go_ret
        exact ⟨rfl, HB.out⟩
    · go_simp
      with_reducible refine (upon4 (w0 := w) ?_ ?_ ?_ ?_)
      (focus (repeat (first | exact Row.new _ _ _ _ _ (by first | rfl | simp) rfl | refine Row.old ?_ | refine Row.drew ?_ | assumption | refine Row.keep (by assumption) ?_)))
      (focus (repeat (first | exact HB.out | refine bal ?_ | refine Below.drew ?_)))
      (focus (first | omega | (simp; omega)))
      intro Y hB hK
      have HB : Hid (Below w.heap.size w Y) := Lib.hid hB
      have hsz : w.heap.size ≤ Y.heap.size := hB.size
      clear hB
      go_wp2_with fail
      refine hKx.out _ _ ?_ (fun hHeld2 => ?_)
      · (try dsimp only); exact ⟨str_row [97, 193, 208, 67, 48] _ (by (focus (repeat (first | exact Row.new _ _ _ _ _ (by first | rfl | simp) rfl | refine Row.old ?_ | refine Row.drew ?_ | assumption | refine Row.keep (by assumption) ?_)))) rfl (by decide), by (focus (repeat (first | exact Row.new _ _ _ _ _ (by first | rfl | simp) rfl | refine Row.old ?_ | refine Row.drew ?_ | assumption | refine Row.keep (by assumption) ?_)))⟩
      clear hHeld1 hKx Kx
      try simp only [Act.put, List.getElem_toArray, List.getElem_cons_zero, List.getElem_cons_succ, List.setIfInBounds_toArray, List.set_cons_zero, List.set_cons_succ]
      refine wpAnyH_ready (rs := [0]) (by kernel_rfl) (by simp) ?_
      refine (AllReadyH.cons rfl (fun Kx hKx => ?_) AllReadyH.nil)
      go_simp
      refine hKx.out _ _ ?_ (fun hHeld3 => ?_)
      · (try dsimp only); exact ⟨str_row [97, 193, 208, 67, 48] _ (by (focus (repeat (first | exact Row.new _ _ _ _ _ (by first | rfl | simp) rfl | refine Row.old ?_ | refine Row.drew ?_ | assumption | refine Row.keep (by assumption) ?_)))) rfl (by decide), by (focus (repeat (first | exact Row.new _ _ _ _ _ (by first | rfl | simp) rfl | refine Row.old ?_ | refine Row.drew ?_ | assumption | refine Row.keep (by assumption) ?_)))⟩
      clear hHeld2 hKx Kx
      try simp only [Act.put, List.getElem_toArray, List.getElem_cons_zero, List.getElem_cons_succ, List.setIfInBounds_toArray, List.set_cons_zero, List.set_cons_succ]
      refine wpAnyH_ready (rs := [1]) (by kernel_rfl) (by simp) ?_
      refine (AllReadyH.cons rfl (fun Kx hKx => ?_) AllReadyH.nil)
      go_simp
      with_reducible refine (upon5 (w0 := w) ?_ ?_ ?_ ?_)
      (focus (repeat (first | exact Row.new _ _ _ _ _ (by first | rfl | simp) rfl | refine Row.old ?_ | refine Row.drew ?_ | assumption | refine Row.keep (by assumption) ?_)))
      (focus (repeat (first | exact HB.out | refine bal ?_ | refine Below.drew ?_)))
      (focus (first | omega | (simp; omega)))
      intro Y hB hK
      have HB : Hid (Below w.heap.size w Y) := Lib.hid hB
      have hsz : w.heap.size ≤ Y.heap.size := hB.size
      clear hB
      go_wp2_with fail
      refine hKx.out _ _ ?_ (fun hHeld4 => ?_)
      · (try dsimp only); exact ⟨str_row [97, 193, 208, 67, 48] _ (by (focus (repeat (first | exact Row.new _ _ _ _ _ (by first | rfl | simp) rfl | refine Row.old ?_ | refine Row.drew ?_ | assumption | refine Row.keep (by assumption) ?_)))) rfl (by decide), by (focus (repeat (first | exact Row.new _ _ _ _ _ (by first | rfl | simp) rfl | refine Row.old ?_ | refine Row.drew ?_ | assumption | refine Row.keep (by assumption) ?_)))⟩
      clear hHeld3 hKx Kx
      try simp only [Act.put, List.getElem_toArray, List.getElem_cons_zero, List.getElem_cons_succ, List.setIfInBounds_toArray, List.set_cons_zero, List.set_cons_succ]
      refine wpAnyH_ready (rs := [2]) (by kernel_rfl) (by simp) ?_
      refine (AllReadyH.cons rfl (fun Kx hKx => ?_) AllReadyH.nil)
      go_simp
      go_at_call 9
      refine (cs1 _ _ ?_).mono ?_
      (focus (repeat (first | exact Row.new _ _ _ _ _ (by first | rfl | simp) rfl | refine Row.old ?_ | refine Row.drew ?_ | assumption | refine Row.keep (by assumption) ?_)))
      rintro e w1 ⟨he, hB⟩
      obtain ⟨M, hM⟩ : ∃ M, M = sum [49, 50, 51, 52, 53] := ⟨_, rfl⟩
      rw [← hM] at he
      subst he
      have HM := Lib.hid hM
      clear hM
      have hB0 : Below w.heap.size w w1 := Below.trans (by (focus (repeat (first | exact HB.out | refine bal ?_ | refine Below.drew ?_)))) (hB.mono (Below.size (by (focus (repeat (first | exact HB.out | refine bal ?_ | refine Below.drew ?_))))))
      have hK1 := Keeps.below hB
      have HB : Hid (Below w.heap.size w w1) := Lib.hid hB0
      have hsz : w.heap.size ≤ w1.heap.size := hB0.size
      clear hB hB0
      go_wp2_with fail
      refine hKx.out _ _ ?_ (fun hHeld5 => ?_)
      · (try dsimp only); exact ⟨str_row [97, 193, 208, 67, 48] _ (by (focus (repeat (first | exact Row.new _ _ _ _ _ (by first | rfl | simp) rfl | refine Row.old ?_ | refine Row.drew ?_ | assumption | refine Row.keep (by assumption) ?_)))) rfl (by decide), by (focus (repeat (first | exact Row.new _ _ _ _ _ (by first | rfl | simp) rfl | refine Row.old ?_ | refine Row.drew ?_ | assumption | refine Row.keep (by assumption) ?_)))⟩
      clear hHeld4 hKx Kx
      try simp only [Act.put, List.getElem_toArray, List.getElem_cons_zero, List.getElem_cons_succ, List.setIfInBounds_toArray, List.set_cons_zero, List.set_cons_succ]
      refine wpAnyH_ready (rs := [5]) (by kernel_rfl) (by simp) ?_
      refine (AllReadyH.cons rfl (fun Kx hKx => ?_) AllReadyH.nil)
      go_simp
      go_at_call 11
      refine (cu1 _ M HM.out _ ?_).mono ?_
      (focus (repeat (first | exact Row.new _ _ _ _ _ (by first | rfl | simp) rfl | refine Row.old ?_ | refine Row.drew ?_ | assumption | refine Row.keep (by assumption) ?_)))
      rintro e w1 ⟨⟨N, rfl, hN, hT⟩, hB⟩
      have hB0 : Below w.heap.size w w1 := Below.trans (by (focus (repeat (first | exact HB.out | refine bal ?_ | refine Below.drew ?_)))) (hB.mono (Below.size (by (focus (repeat (first | exact HB.out | refine bal ?_ | refine Below.drew ?_))))))
      have hK1 := Keeps.below hB
      have HB : Hid (Below w.heap.size w w1) := Lib.hid hB0
      have hsz : w.heap.size ≤ w1.heap.size := hB0.size
      clear hB hB0
      go_wp2_with fail
      refine hKx.out _ _ ?_ (fun hHeld6 => ?_)
      · (try dsimp only); exact ⟨str_row [97, 193, 208, 67, 48] _ (by (focus (repeat (first | exact Row.new _ _ _ _ _ (by first | rfl | simp) rfl | refine Row.old ?_ | refine Row.drew ?_ | assumption | refine Row.keep (by assumption) ?_)))) rfl (by decide), by (focus (repeat (first | exact Row.new _ _ _ _ _ (by first | rfl | simp) rfl | refine Row.old ?_ | refine Row.drew ?_ | assumption | refine Row.keep (by assumption) ?_)))⟩
      clear hHeld5 hKx Kx
      try simp only [Act.put, List.getElem_toArray, List.getElem_cons_zero, List.getElem_cons_succ, List.setIfInBounds_toArray, List.set_cons_zero, List.set_cons_succ]
      refine wpAnyH_ready (rs := [6]) (by kernel_rfl) (by simp) ?_
      refine (AllReadyH.cons rfl (fun Kx hKx => ?_) AllReadyH.nil)
      go_simp
      go_at_call 17
      with_reducible refine (text_any _ hN _ (HV.out.below HB.out (Nat.le_refl _)).bruijn).mono ?_
      rintro e w1 ⟨he, hB⟩
      rw [hT] at he
      subst he
      have hB0 : Below w.heap.size w w1 := Below.trans (by (focus (repeat (first | exact HB.out | refine bal ?_ | refine Below.drew ?_)))) (hB.mono (Below.size (by (focus (repeat (first | exact HB.out | refine bal ?_ | refine Below.drew ?_))))))
      have hK1 := Keeps.below hB
      have HB : Hid (Below w.heap.size w w1) := Lib.hid hB0
      have hsz : w.heap.size ≤ w1.heap.size := hB0.size
      clear hB hB0
      go_wp2_with fail
      refine hKx.out _ _ ?_ (fun hHeld7 => ?_)
      · (try dsimp only); exact ⟨str_row [97, 193, 208, 67, 48] _ (by (focus (repeat (first | exact Row.new _ _ _ _ _ (by first | rfl | simp) rfl | refine Row.old ?_ | refine Row.drew ?_ | assumption | refine Row.keep (by assumption) ?_)))) rfl (by decide), by (focus (repeat (first | exact Row.new _ _ _ _ _ (by first | rfl | simp) rfl | refine Row.old ?_ | refine Row.drew ?_ | assumption | refine Row.keep (by assumption) ?_)))⟩
      clear hHeld6 hKx Kx
      try simp only [Act.put, List.getElem_toArray, List.getElem_cons_zero, List.getElem_cons_succ, List.setIfInBounds_toArray, List.set_cons_zero, List.set_cons_succ]
      refine wpAnyH_take (i := 7) (v := ?_) rfl (by kernel_rfl) (by kernel_rfl) (by kernel_rfl) (fun _ _ _ h => h) (Or.inl ⟨by rfl, ?_⟩) (by assumption) ?_
      rotate_left
      · intro w hSw; (try dsimp only at hSw); go_simp; with_reducible rfl
      try simp only [Act.put, List.getElem_toArray, List.getElem_cons_zero, List.getElem_cons_succ, List.setIfInBounds_toArray, List.set_cons_zero, List.set_cons_succ]
      refine wpAnyH_take (i := 8) (v := ?_) rfl (by kernel_rfl) (by kernel_rfl) (by kernel_rfl) (fun _ _ _ h => h) (Or.inl ⟨by rfl, ?_⟩) (by assumption) ?_
      rotate_left
      · intro w hSw; (try dsimp only at hSw); go_simp; with_reducible rfl
      try simp only [Act.put, List.getElem_toArray, List.getElem_cons_zero, List.getElem_cons_succ, List.setIfInBounds_toArray, List.set_cons_zero, List.set_cons_succ]
      refine wpAnyH_take (i := 13) (v := ?_) rfl (by kernel_rfl) (by kernel_rfl) (by kernel_rfl) (fun _ _ _ h => h) (Or.inl ⟨by rfl, ?_⟩) (by assumption) ?_
      rotate_left
      · intro w hSw; (try dsimp only at hSw); go_simp; with_reducible rfl
      try simp only [Act.put, List.getElem_toArray, List.getElem_cons_zero, List.getElem_cons_succ, List.setIfInBounds_toArray, List.set_cons_zero, List.set_cons_succ]
      refine wpAnyH_take (i := 14) (v := ?_) rfl (by kernel_rfl) (by kernel_rfl) (by kernel_rfl) (fun _ _ _ h => h) (Or.inl ⟨by rfl, ?_⟩) (by assumption) ?_
      rotate_left
      · intro w hSw; (try dsimp only at hSw); go_simp; with_reducible rfl
      try simp only [Act.put, List.getElem_toArray, List.getElem_cons_zero, List.getElem_cons_succ, List.setIfInBounds_toArray, List.set_cons_zero, List.set_cons_succ]
      refine wpAnyH_ready (rs := [9]) (by kernel_rfl) (by simp) ?_
      refine (AllReadyH.cons rfl (fun Kx hKx => ?_) AllReadyH.nil)
      go_simp
      refine hKx.out _ _ ?_ (fun hHeld8 => ?_)
      · (try dsimp only); exact ⟨str_row [97, 193, 208, 67, 48] _ (by (focus (repeat (first | exact Row.new _ _ _ _ _ (by first | rfl | simp) rfl | refine Row.old ?_ | refine Row.drew ?_ | assumption | refine Row.keep (by assumption) ?_)))) rfl (by decide), by (focus (repeat (first | exact Row.new _ _ _ _ _ (by first | rfl | simp) rfl | refine Row.old ?_ | refine Row.drew ?_ | assumption | refine Row.keep (by assumption) ?_)))⟩
      clear hHeld7 hKx Kx
      try simp only [Act.put, List.getElem_toArray, List.getElem_cons_zero, List.getElem_cons_succ, List.setIfInBounds_toArray, List.set_cons_zero, List.set_cons_succ]
      refine wpAnyH_ready (rs := [10]) (by kernel_rfl) (by simp) ?_
      refine (AllReadyH.cons rfl (fun Kx hKx => ?_) AllReadyH.nil)
      go_simp
      with_reducible refine (upon1 (w0 := w) ?_ ?_ ?_ ?_)
      (focus (repeat (first | exact Row.new _ _ _ _ _ (by first | rfl | simp) rfl | refine Row.old ?_ | refine Row.drew ?_ | assumption | refine Row.keep (by assumption) ?_)))
      (focus (repeat (first | exact HB.out | refine bal ?_ | refine Below.drew ?_)))
      (focus (first | omega | (simp; omega)))
      intro Y hB hK
      have HB : Hid (Below w.heap.size w Y) := Lib.hid hB
      have hsz : w.heap.size ≤ Y.heap.size := hB.size
      clear hB
      go_wp2_with fail
      refine hKx.out _ _ ?_ (fun hHeld9 => ?_)
      · (try dsimp only); exact ⟨str_row [97, 193, 208, 67, 48] _ (by (focus (repeat (first | exact Row.new _ _ _ _ _ (by first | rfl | simp) rfl | refine Row.old ?_ | refine Row.drew ?_ | assumption | refine Row.keep (by assumption) ?_)))) rfl (by decide), by (focus (repeat (first | exact Row.new _ _ _ _ _ (by first | rfl | simp) rfl | refine Row.old ?_ | refine Row.drew ?_ | assumption | refine Row.keep (by assumption) ?_)))⟩
      clear hHeld8 hKx Kx
      try simp only [Act.put, List.getElem_toArray, List.getElem_cons_zero, List.getElem_cons_succ, List.setIfInBounds_toArray, List.set_cons_zero, List.set_cons_succ]
      refine wpAnyH_ready (rs := [11]) (by kernel_rfl) (by simp) ?_
      refine (AllReadyH.cons rfl (fun Kx hKx => ?_) AllReadyH.nil)
      go_simp
      go_at_call 13
      refine (ca1 _ _ ?_).mono ?_
      (focus (repeat (first | exact Row.new _ _ _ _ _ (by first | rfl | simp) rfl | refine Row.old ?_ | refine Row.drew ?_ | assumption | refine Row.keep (by assumption) ?_)))
      rintro e w1 ⟨⟨v, rfl, hcv⟩, hB⟩
      have hB0 : Below w.heap.size w w1 := Below.trans (by (focus (repeat (first | exact HB.out | refine bal ?_ | refine Below.drew ?_)))) (hB.mono (Below.size (by (focus (repeat (first | exact HB.out | refine bal ?_ | refine Below.drew ?_))))))
      have hK1 := Keeps.below hB
      have HB : Hid (Below w.heap.size w w1) := Lib.hid hB0
      have hsz : w.heap.size ≤ w1.heap.size := hB0.size
      clear hB hB0
      go_wp2_with fail
      refine hKx.out _ _ ?_ (fun hHeld10 => ?_)
      · (try dsimp only); exact ⟨str_row [97, 193, 208, 67, 48] _ (by (focus (repeat (first | exact Row.new _ _ _ _ _ (by first | rfl | simp) rfl | refine Row.old ?_ | refine Row.drew ?_ | assumption | refine Row.keep (by assumption) ?_)))) rfl (by decide), by (focus (repeat (first | exact Row.new _ _ _ _ _ (by first | rfl | simp) rfl | refine Row.old ?_ | refine Row.drew ?_ | assumption | refine Row.keep (by assumption) ?_)))⟩
      clear hHeld9 hKx Kx
      try simp only [Act.put, List.getElem_toArray, List.getElem_cons_zero, List.getElem_cons_succ, List.setIfInBounds_toArray, List.set_cons_zero, List.set_cons_succ]
      refine wpAnyH_ready (rs := [12]) (by kernel_rfl) (by simp) ?_
      refine (AllReadyH.cons rfl (fun Kx hKx => ?_) AllReadyH.nil)
      go_simp
      refine hKx.out _ _ ?_ (fun hHeld11 => ?_)
      · (try dsimp only); exact ⟨str_row [97, 193, 208, 67, 48] _ (by (focus (repeat (first | exact Row.new _ _ _ _ _ (by first | rfl | simp) rfl | refine Row.old ?_ | refine Row.drew ?_ | assumption | refine Row.keep (by assumption) ?_)))) rfl (by decide), by (focus (repeat (first | exact Row.new _ _ _ _ _ (by first | rfl | simp) rfl | refine Row.old ?_ | refine Row.drew ?_ | assumption | refine Row.keep (by assumption) ?_)))⟩
      clear hHeld10 hKx Kx
      try simp only [Act.put, List.getElem_toArray, List.getElem_cons_zero, List.getElem_cons_succ, List.setIfInBounds_toArray, List.set_cons_zero, List.set_cons_succ]
      refine wpAnyH_take (i := 15) (v := ?_) rfl (by kernel_rfl) (by kernel_rfl) (by kernel_rfl) (fun _ _ _ h => h) (Or.inl ⟨by rfl, ?_⟩) (by assumption) ?_
      rotate_left
      · intro w hSw; (try dsimp only at hSw); go_simp; with_reducible rfl
      try simp only [Act.put, List.getElem_toArray, List.getElem_cons_zero, List.getElem_cons_succ, List.setIfInBounds_toArray, List.set_cons_zero, List.set_cons_succ]
      refine wpAnyH_take (i := 16) (v := ?_) rfl (by kernel_rfl) (by kernel_rfl) (by kernel_rfl) (fun _ _ _ h => h) (Or.inl ⟨by rfl, ?_⟩) (by assumption) ?_
      rotate_left
      · intro w hSw; (try dsimp only at hSw); go_simp; with_reducible rfl
      try simp only [Act.put, List.getElem_toArray, List.getElem_cons_zero, List.getElem_cons_succ, List.setIfInBounds_toArray, List.set_cons_zero, List.set_cons_succ]
      refine wpAnyH_take (i := 17) (v := ?_) rfl (by kernel_rfl) (by kernel_rfl) (by kernel_rfl) (fun _ _ _ h => h) (Or.inl ⟨by rfl, ?_⟩) (by assumption) ?_
      rotate_left
      · intro w hSw; (try dsimp only at hSw); go_simp; with_reducible rfl
      try simp only [Act.put, List.getElem_toArray, List.getElem_cons_zero, List.getElem_cons_succ, List.setIfInBounds_toArray, List.set_cons_zero, List.set_cons_succ]
      refine wpAnyH_take (i := 18) (v := ?_) rfl (by kernel_rfl) (by kernel_rfl) (by kernel_rfl) (fun _ _ _ h => h) (Or.inl ⟨by rfl, ?_⟩) (by assumption) ?_
      rotate_left
      · intro w hSw; (try dsimp only at hSw); go_simp; with_reducible rfl
      try simp only [Act.put, List.getElem_toArray, List.getElem_cons_zero, List.getElem_cons_succ, List.setIfInBounds_toArray, List.set_cons_zero, List.set_cons_succ]
      refine wpAnyH_ready (rs := [19]) (by kernel_rfl) (by simp) ?_
      refine (AllReadyH.cons rfl (fun Kx hKx => ?_) AllReadyH.nil)
      go_simp
      refine hKx.out _ _ ?_ (fun hHeld12 => ?_)
      · (try dsimp only); exact ⟨str_row [97, 193, 208, 67, 48] _ (by (focus (repeat (first | exact Row.new _ _ _ _ _ (by first | rfl | simp) rfl | refine Row.old ?_ | refine Row.drew ?_ | assumption | refine Row.keep (by assumption) ?_)))) rfl (by decide), by (focus (repeat (first | exact Row.new _ _ _ _ _ (by first | rfl | simp) rfl | refine Row.old ?_ | refine Row.drew ?_ | assumption | refine Row.keep (by assumption) ?_)))⟩
      clear hHeld11 hKx Kx
      try simp only [Act.put, List.getElem_toArray, List.getElem_cons_zero, List.getElem_cons_succ, List.setIfInBounds_toArray, List.set_cons_zero, List.set_cons_succ]
      refine wpAnyH_ready (rs := [20]) (by kernel_rfl) (by simp) ?_
      refine (AllReadyH.cons rfl (fun Kx hKx => ?_) AllReadyH.nil)
      go_simp
      go_at_call 15
      refine (co1 _ _ _ ?_ ?_).mono ?_
      (focus (repeat (first | exact Row.new _ _ _ _ _ (by first | rfl | simp) rfl | refine Row.old ?_ | refine Row.drew ?_ | assumption | refine Row.keep (by assumption) ?_)))
      (focus (repeat (first | exact Row.new _ _ _ _ _ (by first | rfl | simp) rfl | refine Row.old ?_ | refine Row.drew ?_ | assumption | refine Row.keep (by assumption) ?_)))
      rintro e w1 ⟨rfl, hB⟩
      have hB0 : Below w.heap.size w w1 := Below.trans (by (focus (repeat (first | exact HB.out | refine bal ?_ | refine Below.drew ?_)))) (hB.mono (Below.size (by (focus (repeat (first | exact HB.out | refine bal ?_ | refine Below.drew ?_))))))
      have hK1 := Keeps.below hB
      have HB : Hid (Below w.heap.size w w1) := Lib.hid hB0
      have hsz : w.heap.size ≤ w1.heap.size := hB0.size
      clear hB hB0
      go_wp2_with fail
      refine hKx.out _ _ ?_ (fun hHeld13 => ?_)
      · (try dsimp only); exact ⟨str_row [97, 193, 208, 67, 48] _ (by (focus (repeat (first | exact Row.new _ _ _ _ _ (by first | rfl | simp) rfl | refine Row.old ?_ | refine Row.drew ?_ | assumption | refine Row.keep (by assumption) ?_)))) rfl (by decide), by (focus (repeat (first | exact Row.new _ _ _ _ _ (by first | rfl | simp) rfl | refine Row.old ?_ | refine Row.drew ?_ | assumption | refine Row.keep (by assumption) ?_)))⟩
      clear hHeld12 hKx Kx
      try simp only [Act.put, List.getElem_toArray, List.getElem_cons_zero, List.getElem_cons_succ, List.setIfInBounds_toArray, List.set_cons_zero, List.set_cons_succ]
      refine wpAnyH_take (i := 21) (v := ?_) rfl (by kernel_rfl) (by kernel_rfl) (by kernel_rfl) (fun _ _ _ h => h) (Or.inl ⟨by rfl, ?_⟩) (by assumption) ?_
      rotate_left
      · intro w hSw; (try dsimp only at hSw); go_simp; with_reducible rfl
      try simp only [Act.put, List.getElem_toArray, List.getElem_cons_zero, List.getElem_cons_succ, List.setIfInBounds_toArray, List.set_cons_zero, List.set_cons_succ]
      refine wpAnyH_take (i := 22) (v := ?_) rfl (by kernel_rfl) (by kernel_rfl) (by kernel_rfl) (fun _ _ _ h => h) (Or.inl ⟨by rfl, ?_⟩) (by assumption) ?_
      rotate_left
      · intro w hSw; (try dsimp only at hSw); go_simp; with_reducible rfl
      try simp only [Act.put, List.getElem_toArray, List.getElem_cons_zero, List.getElem_cons_succ, List.setIfInBounds_toArray, List.set_cons_zero, List.set_cons_succ]
      refine wpAnyH_done (by kernel_rfl) ?_ _
      refine NoPanic.normal ?_
      go_wp2_with (first
        | (go_at_call 15; with_reducible refine (ko_nil _).mono ?_; rintro e w1 ⟨rfl, hB⟩; have HB : Hid (Below w.heap.size w w1) := Lib.hid (HB.out.trans (hB.mono HB.out.size)); clear hB)
        | (go_at_call 15; with_reducible refine (ko_z _).mono ?_; rintro e w1 ⟨rfl, hB⟩; have HB : Hid (Below w.heap.size w w1) := Lib.hid (HB.out.trans (hB.mono HB.out.size)); clear hB)
        | (go_at_call 15; with_reducible refine (ko_o _).mono ?_; rintro e w1 ⟨rfl, hB⟩; have HB : Hid (Below w.heap.size w w1) := Lib.hid (HB.out.trans (hB.mono HB.out.size)); clear hB)
        | (go_at_call 15; with_reducible refine (ko_c _).mono ?_; rintro e w1 ⟨rfl, hB⟩; have HB : Hid (Below w.heap.size w w1) := Lib.hid (HB.out.trans (hB.mono HB.out.size)); clear hB)
        | (go_at_call 20; with_reducible refine (kp_l _ (HV.out.below HB.out (Nat.le_refl _))).mono ?_; rintro e w1 ⟨rfl, hB⟩; have HB : Hid (Below w.heap.size w w1) := Lib.hid (HB.out.trans (hB.mono HB.out.size)); clear hB)
        | (go_at_call 20; with_reducible refine (kp_u _ (HV.out.below HB.out (Nat.le_refl _))).mono ?_; rintro e w1 ⟨rfl, hB⟩; have HB : Hid (Below w.heap.size w w1) := Lib.hid (HB.out.trans (hB.mono HB.out.size)); clear hB))
      go_ret
      exact ⟨rfl, HB.out⟩

end Go.Proofs.YtbmkjjoehancbaaDoor.ACrc
