/- Plain mathematics of the check sum: the table, the step of a byte, what follows from their linearity. No program in sight. -/
import Derived.Laws.BitsAllLaws
namespace Go.Proofs.YtbmkjjoehancbaaDoor.Crc
theorem xor_half (a b : Nat) : (a ^^^ b) / 2 = a / 2 ^^^ b / 2 := by
  have := Nat.shiftRight_xor_distrib (a := a) (b := b) (i := 1)
  simpa [Nat.shiftRight_eq_div_pow] using this
theorem xor_odd (a b : Nat) : (a ^^^ b) % 2 = (a % 2 + b % 2) % 2 := by
  have h := Nat.xor_mod_two_pow (a := a) (b := b) (n := 1)
  rw [show (2 : Nat) ^ 1 = 2 from rfl] at h
  rw [h]
  rcases Nat.mod_two_eq_zero_or_one a with ha | ha <;> rcases Nat.mod_two_eq_zero_or_one b with hb | hb <;> rw [ha, hb] <;> decide
theorem xor_zero_eq {a b : Nat} (h : a ^^^ b = 0) : a = b := by
  have : (a ^^^ b) ^^^ b = 0 ^^^ b := by rw [h]
  simpa [Nat.xor_assoc] using this
def sb (n : Nat) : Nat := if n % 2 = 1 then n / 2 ^^^ 2197175160 else n / 2
theorem sb_xor (a b : Nat) : sb (a ^^^ b) = sb a ^^^ sb b := by
  unfold sb
  rw [xor_half, xor_odd]
  rcases Nat.mod_two_eq_zero_or_one a with ha | ha <;> rcases Nat.mod_two_eq_zero_or_one b with hb | hb <;> simp [ha, hb]
  · rw [Nat.xor_assoc]
  · rw [Nat.xor_assoc, Nat.xor_assoc, Nat.xor_comm 2197175160]
  · rw [Nat.xor_assoc, ← Nat.xor_assoc 2197175160, Nat.xor_comm 2197175160, Nat.xor_assoc, Nat.xor_self, Nat.xor_zero]
def sbs : Nat → Nat → Nat
  | 0, n => n
  | k + 1, n => sbs k (sb n)
theorem sbs_xor (k : Nat) : ∀ a b : Nat, sbs k (a ^^^ b) = sbs k a ^^^ sbs k b := by
  induction k with
  | zero => intro a b; rfl
  | succ k ih => intro a b; simp only [sbs, sb_xor, ih]
theorem sbs_even (k : Nat) : ∀ n : Nat, sbs k (n * 2 ^ k) = n := by
  induction k with
  | zero => intro n; simp [sbs]
  | succ k ih =>
    intro n
    have h0 : (n * 2 ^ (k + 1)) % 2 = 0 := by rw [Nat.pow_succ, ← Nat.mul_assoc]; exact Nat.mul_mod_left _ _
    have h1 : (n * 2 ^ (k + 1)) / 2 = n * 2 ^ k := by rw [Nat.pow_succ, ← Nat.mul_assoc]; exact Nat.mul_div_cancel _ (by decide)
    simp only [sbs, sb, h0, h1, Nat.zero_ne_one, if_false]
    exact ih n
theorem sbs_succ (k : Nat) : ∀ n, sbs (k + 1) n = sb (sbs k n) := by
  induction k with
  | zero => intro n; rfl
  | succ k ih => intro n; rw [sbs, ih]; rfl
def tb (i : Nat) : Nat := sbs 8 i
def rstep (n x : Nat) : Nat := sbs 8 (n ^^^ x)
theorem split256 (m : Nat) : m = (m / 256 * 256) ^^^ (m % 256) := by
  apply Nat.eq_of_testBit_eq
  intro i
  rw [Nat.testBit_xor, show (256 : Nat) = 2 ^ 8 from rfl, Nat.testBit_mod_two_pow, ← Nat.shiftLeft_eq, Nat.testBit_shiftLeft, ← Nat.shiftRight_eq_div_pow, Nat.testBit_shiftRight]
  by_cases h : i < 8
  · have : ¬ (i ≥ 8) := by omega
    simp [h, this]
  · have h8 : i ≥ 8 := by omega
    have e : 8 + (i - 8) = i := by omega
    simp [h, h8, e]
theorem xor_div256 (n x : Nat) (hx : x < 256) : (n ^^^ x) / 256 = n / 256 := by
  have := Nat.shiftRight_xor_distrib (a := n) (b := x) (i := 8)
  rw [Nat.shiftRight_eq_div_pow, Nat.shiftRight_eq_div_pow, Nat.shiftRight_eq_div_pow] at this
  have h0 : x / 2 ^ 8 = 0 := Nat.div_eq_of_lt (by simpa using hx)
  rw [h0, Nat.xor_zero] at this
  exact this
theorem xor_mod256 (n x : Nat) (hx : x < 256) : (n ^^^ x) % 256 = (n % 256) ^^^ x := by
  have := Nat.xor_mod_two_pow (a := n) (b := x) (n := 8)
  rw [show (2:Nat)^8 = 256 from rfl, Nat.mod_eq_of_lt hx] at this
  exact this
theorem rstep_table (n x : Nat) (hx : x < 256) : rstep n x = tb ((n % 256) ^^^ x) ^^^ n / 256 := by
  unfold rstep tb
  rw [split256 (n ^^^ x), sbs_xor, show (256:Nat) = 2 ^ 8 from rfl, sbs_even, show (2:Nat)^8 = 256 from rfl, xor_div256 n x hx, xor_mod256 n x hx, Nat.xor_comm]
theorem sb_lt (n : Nat) (h : n < 4294967296) : sb n < 4294967296 := by
  unfold sb
  split
  · exact Nat.xor_lt_two_pow (n := 32) (by show n / 2 < 4294967296; omega) (by decide)
  · omega
theorem sbs_lt (k : Nat) : ∀ n, n < 4294967296 → sbs k n < 4294967296 := by
  induction k with
  | zero => intro n h; exact h
  | succ k ih => intro n h; exact ih _ (sb_lt n h)
theorem rstep_lt (n x : Nat) (hn : n < 4294967296) (hx : x < 256) : rstep n x < 4294967296 :=
  sbs_lt 8 _ (Nat.xor_lt_two_pow (n := 32) hn (by show x < 4294967296; omega))
theorem sb_zero (n : Nat) (hn : n < 4294967296) (h : sb n = 0) : n = 0 := by
  unfold sb at h
  split at h
  · have e : n / 2 = 2197175160 := xor_zero_eq h
    omega
  · omega
theorem sbs_zero (k : Nat) : ∀ n, n < 4294967296 → sbs k n = 0 → n = 0 := by
  induction k with
  | zero => intro n _ h; exact h
  | succ k ih => intro n hn h; exact sb_zero n hn (ih _ (sb_lt n hn) h)
theorem sbs_inj (k a b : Nat) (ha : a < 4294967296) (hb : b < 4294967296) (h : sbs k a = sbs k b) : a = b := by
  have h0 : sbs k (a ^^^ b) = 0 := by rw [sbs_xor, h, Nat.xor_self]
  exact xor_zero_eq (sbs_zero k _ (Nat.xor_lt_two_pow (n := 32) ha hb) h0)
theorem xor_right_cancel {a b x : Nat} (h : a ^^^ x = b ^^^ x) : a = b := by
  have : (a ^^^ x) ^^^ x = (b ^^^ x) ^^^ x := by rw [h]
  simpa [Nat.xor_assoc] using this
theorem xor_left_cancel {a b x : Nat} (h : x ^^^ a = x ^^^ b) : a = b := by
  rw [Nat.xor_comm x a, Nat.xor_comm x b] at h; exact xor_right_cancel h
theorem rstep_inj_n {a b x : Nat} (ha : a < 4294967296) (hb : b < 4294967296) (hx : x < 256) (h : rstep a x = rstep b x) : a = b :=
  xor_right_cancel (sbs_inj 8 _ _ (Nat.xor_lt_two_pow (n := 32) ha (by show x < 4294967296; omega)) (Nat.xor_lt_two_pow (n := 32) hb (by show x < 4294967296; omega)) h)
theorem rstep_inj_x {n x y : Nat} (hn : n < 4294967296) (hx : x < 256) (hy : y < 256) (h : rstep n x = rstep n y) : x = y :=
  xor_left_cancel (sbs_inj 8 _ _ (Nat.xor_lt_two_pow (n := 32) hn (by show x < 4294967296; omega)) (Nat.xor_lt_two_pow (n := 32) hn (by show y < 4294967296; omega)) h)
attribute [local irreducible] rstep
/-- the number after some more bytes -/
def upd : Nat → List Int → Nat
  | n, [] => n
  | n, x :: l => upd (rstep n x.toNat) l
def Bs (l : List Int) : Prop := ∀ x, x ∈ l → 0 ≤ x ∧ x < 256
theorem upd_append (a b : List Int) : ∀ n, upd n (a ++ b) = upd (upd n a) b := by
  induction a with
  | nil => intro n; rfl
  | cons x a ih => intro n; simp only [List.cons_append, upd, ih]
theorem upd_lt (l : List Int) : ∀ n, n < 4294967296 → Bs l → upd n l < 4294967296 := by
  induction l with
  | nil => intro n h _; exact h
  | cons x l ih =>
    intro n h hl
    have hx := hl x (by simp)
    exact ih _ (rstep_lt n _ h (by omega)) (fun y hy => hl y (by simp [hy]))
theorem upd_inj (l : List Int) : ∀ a b, a < 4294967296 → b < 4294967296 → Bs l → upd a l = upd b l → a = b := by
  induction l with
  | nil => intro a b _ _ _ h; exact h
  | cons x l ih =>
    intro a b ha hb hl h
    have hx := hl x (by simp)
    exact rstep_inj_n ha hb (by omega) (ih _ _ (rstep_lt a _ ha (by omega)) (rstep_lt b _ hb (by omega)) (fun y hy => hl y (by simp [hy])) h)
/-- the check sum of bytes behind bytes with a check sum -/
def update (s : Nat) (l : List Int) : Nat := 4294967295 - upd (4294967295 - s) l
def sum (l : List Int) : Nat := update 0 l
theorem update_eq (s : Nat) (l : List Int) : update s l = 4294967295 - upd (4294967295 - s) l := by simp only [update]
theorem sum_eq (l : List Int) : sum l = 4294967295 - upd 4294967295 l := by simp only [sum, update, Nat.sub_zero]
attribute [local irreducible] update sum
theorem update_lt (s : Nat) (l : List Int) : update s l < 4294967296 := by
  rw [update_eq]
  generalize upd (4294967295 - s) l = u
  omega
theorem update_append (s : Nat) (hs : s < 4294967296) (a b : List Int) (ha : Bs a) : update (update s a) b = update s (a ++ b) := by
  have hu := upd_lt a (4294967295 - s) (by omega) ha
  rw [update_eq, update_eq, update_eq, upd_append]
  generalize upd (4294967295 - s) a = u at *
  rw [show 4294967295 - (4294967295 - u) = u from by omega]
/-- changing one byte changes the check sum -/
theorem sum_set (l : List Int) (hl : Bs l) (k : Nat) (hk : k < l.length) (y : Int) (hy : 0 ≤ y ∧ y < 256) (hne : l[k] ≠ y) : sum (l.set k y) ≠ sum l := by
  intro h
  have hb : Bs (l.set k y) := fun x hx => by
    rcases List.mem_or_eq_of_mem_set hx with h | h
    · exact hl x h
    · subst h; exact hy
  have e1 : l.set k y = l.take k ++ y :: l.drop (k + 1) := List.set_eq_take_append_cons_drop.trans (by rw [if_pos hk])
  have e2 : l = l.take k ++ l[k] :: l.drop (k + 1) := by rw [List.getElem_cons_drop, List.take_append_drop]
  have ht : Bs (l.take k) := fun x hx => hl x (List.mem_of_mem_take hx)
  have hd : Bs (l.drop (k + 1)) := fun x hx => hl x (List.mem_of_mem_drop hx)
  have hx := hl l[k] (List.getElem_mem hk)
  have u1 := upd_lt (l.set k y) 4294967295 (by omega) hb
  have u2 := upd_lt l 4294967295 (by omega) hl
  have e : upd 4294967295 (l.set k y) = upd 4294967295 l := by
    rw [sum_eq, sum_eq] at h
    generalize upd 4294967295 (l.set k y) = p at *
    generalize upd 4294967295 l = q at *
    omega
  have ul := upd_lt (l.take k) 4294967295 (by omega) ht
  rw [e1] at e
  conv at e => rhs; rw [e2]
  rw [upd_append, upd_append] at e
  simp only [upd] at e
  have e3 := upd_inj _ _ _ (rstep_lt _ _ ul (by omega)) (rstep_lt _ _ ul (by omega)) hd e
  have e4 := rstep_inj_x ul (by omega) (by omega) e3
  omega
end Go.Proofs.YtbmkjjoehancbaaDoor.Crc
