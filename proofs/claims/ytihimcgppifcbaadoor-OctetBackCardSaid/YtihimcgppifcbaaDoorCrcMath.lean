/- CRC-32C in numbers: one bit's step, its linearity, that it loses nothing; a byte's step by two nibbles of a table; bursts of up to 32 bits. No program in sight. -/
import Derived.Test.YtihimcgppifcbaaDoorBase
namespace Go.Proofs.YtihimcgppifcbaaDoor.Crc

def P : Nat := 2197175160
def M : Nat := 4294967295
/-- one bit's step -/
def f (r : Nat) : Nat := r / 2 ^^^ (if r % 2 = 1 then P else 0)
def tab : List Nat := [0, 274646895, 549293790, 820201905, 1098587580, 1361435347, 1640403810, 1905808397, 2197175160, 2460548119, 2722870694, 2987750089, 3280807620, 3553878443, 3811616794, 4084100981]
def half (i : Nat) : Nat := tab.getD i 0
/-- a nibble's step -/
def nib (r : Nat) : Nat := r / 16 ^^^ half (r % 16)
/-- a byte's step -/
def byte (r c : Nat) : Nat := nib (nib (r ^^^ c))
def fold (r : Nat) (l : List UInt8) : Nat := l.foldl (fun r c => byte r c.toNat) r
def on (sum : Nat) (l : List UInt8) : Nat := M ^^^ fold (M ^^^ sum) l
def of_ (l : List UInt8) : Nat := on 0 l

theorem lt32 (a b : Nat) (ha : a < 4294967296) (hb : b < 4294967296) : a ^^^ b < 4294967296 := Nat.xor_lt_two_pow (n := 32) ha hb
theorem f_lt (r : Nat) (h : r < 4294967296) : f r < 4294967296 := by
  unfold f P
  apply lt32
  · omega
  · split <;> omega
theorem half_lt (i : Nat) : half i < 4294967296 := by
  unfold half
  rcases Nat.lt_or_ge i 16 with h | h
  · have : ∀ i, i < 16 → tab.getD i 0 < 4294967296 := by decide
    exact this i h
  · rw [List.getD_eq_getElem?_getD, List.getElem?_eq_none (by simpa [tab] using h)]
    exact (by decide : 0 < 4294967296)
theorem nib_lt (r : Nat) (h : r < 4294967296) : nib r < 4294967296 := lt32 _ _ (by omega) (half_lt _)
theorem byte_lt (r c : Nat) (h : r < 4294967296) (hc : c < 256) : byte r c < 4294967296 := nib_lt _ (nib_lt _ (lt32 _ _ h (by omega)))
theorem fold_lt (l : List UInt8) : ∀ r, r < 4294967296 → fold r l < 4294967296 := by
  induction l with
  | nil => intro r h; exact h
  | cons c l ih => intro r h; exact ih _ (byte_lt r _ h (UInt8.toNat_lt c))
theorem on_lt (s : Nat) (l : List UInt8) (h : s < 4294967296) : on s l < 4294967296 := lt32 _ _ (by decide) (fold_lt l _ (lt32 _ _ (by decide) h))

theorem half2 (a b : Nat) : (a ^^^ b) / 2 = a / 2 ^^^ b / 2 := by
  have h := Nat.shiftRight_xor_distrib (a := a) (b := b) (i := 1)
  rw [Nat.shiftRight_eq_div_pow, Nat.shiftRight_eq_div_pow, Nat.shiftRight_eq_div_pow] at h
  exact h
theorem par (a b : Nat) : (a ^^^ b) % 2 = (a % 2 + b % 2) % 2 := by
  rw [← Nat.and_one_is_mod, Nat.and_xor_distrib_right, Nat.and_one_is_mod, Nat.and_one_is_mod]
  rcases Nat.mod_two_eq_zero_or_one a with h | h <;> rcases Nat.mod_two_eq_zero_or_one b with k | k <;> rw [h, k]
  all_goals rfl
theorem x4 (a b c d : Nat) : a ^^^ b ^^^ (c ^^^ d) = a ^^^ c ^^^ (b ^^^ d) := by
  rw [Nat.xor_assoc, Nat.xor_assoc, ← Nat.xor_assoc b c d, Nat.xor_comm b c, Nat.xor_assoc]

theorem f_xor (a b : Nat) : f (a ^^^ b) = f a ^^^ f b := by
  unfold f
  rw [half2, par, x4]
  congr 1
  rcases Nat.mod_two_eq_zero_or_one a with h | h <;> rcases Nat.mod_two_eq_zero_or_one b with k | k <;> rw [h, k]
  all_goals simp
theorem f_zero : f 0 = 0 := by decide
theorem f_even (q : Nat) : f (2 * q) = q := by
  unfold f
  rw [if_neg (by omega), Nat.xor_zero]
  omega

/-- so many bits' steps -/
def fn : Nat → Nat → Nat
  | 0, r => r
  | n + 1, r => fn n (f r)
theorem fn_xor (n : Nat) : ∀ a b, fn n (a ^^^ b) = fn n a ^^^ fn n b := by
  induction n with
  | zero => intro a b; rfl
  | succ n ih => intro a b; show fn n (f (a ^^^ b)) = fn n (f a) ^^^ fn n (f b); rw [f_xor, ih]
theorem fn_zero (n : Nat) : fn n 0 = 0 := by
  induction n with
  | zero => rfl
  | succ n ih => show fn n (f 0) = 0; rw [f_zero, ih]
theorem fn_add (m n : Nat) : ∀ r, fn (m + n) r = fn n (fn m r) := by
  induction m with
  | zero => intro r; rw [Nat.zero_add]; rfl
  | succ m ih => intro r; rw [show m + 1 + n = (m + n) + 1 by omega]; exact ih (f r)
theorem fn_lt (n : Nat) : ∀ r, r < 4294967296 → fn n r < 4294967296 := by
  induction n with
  | zero => intro r h; exact h
  | succ n ih => intro r h; exact ih _ (f_lt r h)

theorem split16 (r : Nat) : r = 16 * (r / 16) ^^^ r % 16 := by
  apply Nat.eq_of_testBit_eq
  intro j
  rw [Nat.testBit_xor]
  have e : r = 2 ^ 4 * (r / 16) + r % 16 := by omega
  have h1 : (16 * (r / 16)).testBit j = if j < 4 then false else (r / 16).testBit (j - 4) := by
    have := Nat.testBit_two_pow_mul_add (i := 4) (r / 16) (b := 0) (by omega) j
    rw [Nat.add_zero] at this
    rw [show 16 * (r / 16) = 2 ^ 4 * (r / 16) from rfl, this]
    split <;> simp
  have h2 := Nat.testBit_two_pow_mul_add (i := 4) (r / 16) (b := r % 16) (by omega) j
  rw [← e] at h2
  rw [h1, h2]
  split
  · simp
  · rename_i hj
    rw [Nat.testBit_lt_two_pow (x := r % 16) (Nat.lt_of_lt_of_le (Nat.mod_lt r (by omega : 16 > 0)) (by rw [show (16 : Nat) = 2 ^ 4 from rfl]; exact Nat.pow_le_pow_right (by omega) (by omega)))]
    simp

theorem nib_eq (r : Nat) : nib r = fn 4 r := by
  have h1 : fn 4 (16 * (r / 16)) = r / 16 := by
    show f (f (f (f (16 * (r / 16))))) = _
    rw [show 16 * (r / 16) = 2 * (2 * (2 * (2 * (r / 16)))) by omega, f_even, f_even, f_even, f_even]
  have h2 : fn 4 (r % 16) = half (r % 16) := by
    have : ∀ i, i < 16 → fn 4 i = half i := by decide
    exact this _ (Nat.mod_lt _ (by omega))
  have h3 : fn 4 r = fn 4 (16 * (r / 16) ^^^ r % 16) := by rw [← split16 r]
  rw [h3, fn_xor, h1, h2]
  rfl
theorem byte_eq (r c : Nat) : byte r c = fn 8 (r ^^^ c) := by
  unfold byte
  rw [nib_eq, nib_eq]
  rfl

theorem fold_nil (r : Nat) : fold r [] = r := rfl
theorem fold_cons (r : Nat) (c : UInt8) (l : List UInt8) : fold r (c :: l) = fold (byte r c.toNat) l := rfl
theorem fold_append (r : Nat) (a b : List UInt8) : fold r (a ++ b) = fold (fold r a) b := by
  unfold fold
  rw [List.foldl_append]
theorem MM (x : Nat) : M ^^^ (M ^^^ x) = x := by rw [← Nat.xor_assoc, Nat.xor_self, Nat.zero_xor]
theorem on_append (s : Nat) (a b : List UInt8) : on (on s a) b = on s (a ++ b) := by
  unfold on
  rw [MM, fold_append]
theorem on_nil (s : Nat) : on s [] = s := by unfold on; rw [fold_nil, MM]

theorem sub_eq (s : Nat) (h : s < 4294967296) : M - s = M ^^^ s := by
  apply Nat.eq_of_testBit_eq
  intro j
  rw [Nat.testBit_xor]
  have h1 := Nat.testBit_two_pow_sub_succ (n := 32) (x := s) h j
  have h2 := Nat.testBit_two_pow_sub_one 32 j
  rw [show M - s = 2 ^ 32 - (s + 1) by unfold M; omega, h1, show M = 2 ^ 32 - 1 from rfl, h2]
  by_cases hj : j < 32
  · simp [hj]
  · simp only [hj, decide_false, Bool.false_and, Bool.false_xor]
    rw [Nat.testBit_lt_two_pow (Nat.lt_of_lt_of_le h (by rw [show (4294967296 : Nat) = 2 ^ 32 from rfl]; exact Nat.pow_le_pow_right (by omega) (by omega)))]

/-- the document's answer, bit by bit: r behind k bits of c -/
def g (r bit : Nat) : Nat := r / 2 ^^^ (if (r % 2 + bit) % 2 = 1 then P else 0)
def gs : Nat → Nat → Nat → Nat
  | 0, r, _ => r
  | k + 1, r, c => gs k (g r (c % 2)) (c / 2)
theorem g_eq (r c : Nat) : g r (c % 2) = f (r ^^^ c) ^^^ c / 2 := by
  unfold g f
  rw [half2, par]
  rw [show (r % 2 + c % 2) % 2 = (r % 2 + c % 2) % 2 from rfl]
  rw [Nat.xor_assoc (r / 2), Nat.xor_assoc (r / 2), Nat.xor_comm (c / 2), Nat.xor_assoc, Nat.xor_self, Nat.xor_zero]
theorem gs_eq (k : Nat) : ∀ r c, gs k r c = fn k (r ^^^ c) ^^^ c / 2 ^ k := by
  induction k with
  | zero => intro r c; show r = (r ^^^ c) ^^^ c / 1; rw [Nat.div_one, Nat.xor_assoc, Nat.xor_self, Nat.xor_zero]
  | succ k ih =>
    intro r c
    show gs k (g r (c % 2)) (c / 2) = fn k (f (r ^^^ c)) ^^^ c / 2 ^ (k + 1)
    rw [ih, g_eq, Nat.xor_assoc, Nat.xor_self, Nat.xor_zero, Nat.div_div_eq_div_mul, Nat.pow_succ, Nat.mul_comm]
theorem gs8 (r c : Nat) (hc : c < 256) : gs 8 r c = byte r c := by
  rw [gs_eq, byte_eq, Nat.div_eq_of_lt (by omega), Nat.xor_zero]

/-- three lists laid over one another -/
theorem byte_xor (r s c d : Nat) : byte (r ^^^ s) (c ^^^ d) = byte r c ^^^ byte s d := by
  rw [byte_eq, byte_eq, byte_eq, x4, fn_xor]
def over (a b : List UInt8) : List UInt8 := List.zipWith (fun x y => x ^^^ y) a b
theorem fold_over : ∀ (a b : List UInt8) (r s : Nat), a.length = b.length → fold (r ^^^ s) (over a b) = fold r a ^^^ fold s b := by
  intro a
  induction a with
  | nil => intro b r s h; cases b with
    | nil => rfl
    | cons _ _ => simp at h
  | cons c a ih => intro b r s h; cases b with
    | nil => simp at h
    | cons d b =>
      show fold (byte (r ^^^ s) ((c ^^^ d).toNat)) (over a b) = fold (byte r c.toNat) a ^^^ fold (byte s d.toNat) b
      rw [UInt8.toNat_xor, byte_xor]
      exact ih b _ _ (by simpa using h)

/-- the step loses nothing -/
theorem f_inj0 (r : Nat) (h : r < 4294967296) (h0 : f r = 0) : r = 0 := by
  unfold f at h0
  have e : r / 2 = (if r % 2 = 1 then P else 0) := by
    have := congrArg (· ^^^ (if r % 2 = 1 then P else 0)) h0
    simp only [Nat.xor_assoc, Nat.xor_self, Nat.xor_zero, Nat.zero_xor] at this
    exact this
  by_cases hr : r % 2 = 1
  · rw [if_pos hr] at e
    unfold P at e
    omega
  · rw [if_neg hr] at e
    omega
theorem fn_inj0 (n : Nat) : ∀ r, r < 4294967296 → fn n r = 0 → r = 0 := by
  induction n with
  | zero => intro r _ h; exact h
  | succ n ih => intro r h h0; exact f_inj0 r h (ih _ (f_lt r h) h0)

/-- the number that bytes are, the lowest first -/
def num : List UInt8 → Nat
  | [] => 0
  | c :: l => c.toNat + 256 * num l
theorem cat256 (c n : Nat) (hc : c < 256) : c + 256 * n = c ^^^ 256 * n := by
  apply Nat.eq_of_testBit_eq
  intro j
  rw [Nat.testBit_xor]
  have h1 : (256 * n).testBit j = if j < 8 then false else n.testBit (j - 8) := by
    have := Nat.testBit_two_pow_mul_add (i := 8) n (b := 0) (by omega) j
    rw [Nat.add_zero] at this
    rw [show 256 * n = 2 ^ 8 * n from rfl, this]
    split <;> simp
  have h2 := Nat.testBit_two_pow_mul_add (i := 8) n (b := c) hc j
  rw [show c + 256 * n = 2 ^ 8 * n + c by omega, h1, h2]
  split
  · simp
  · rename_i hj
    rw [Nat.testBit_lt_two_pow (x := c) (Nat.lt_of_lt_of_le hc (by rw [show (256 : Nat) = 2 ^ 8 from rfl]; exact Nat.pow_le_pow_right (by omega) (by omega)))]
    simp
theorem fn_mul (k n : Nat) : fn k (2 ^ k * n) = n := by
  induction k generalizing n with
  | zero => show 2 ^ 0 * n = n; omega
  | succ k ih =>
    show fn k (f (2 ^ (k + 1) * n)) = n
    rw [show 2 ^ (k + 1) * n = 2 * (2 ^ k * n) by rw [Nat.pow_succ]; simp [Nat.mul_comm, Nat.mul_left_comm], f_even, ih]
/-- behind bytes the register is what 8 steps a byte make of it and of their number -/
theorem fold_num (l : List UInt8) : ∀ r, fold r l = fn (8 * l.length) (r ^^^ num l) := by
  induction l with
  | nil => intro r; show r = r ^^^ 0; rw [Nat.xor_zero]
  | cons c l ih =>
    intro r
    rw [fold_cons, ih, byte_eq]
    show fn (8 * l.length) (fn 8 (r ^^^ c.toNat) ^^^ num l) = fn (8 * (l.length + 1)) (r ^^^ (c.toNat + 256 * num l))
    rw [show 8 * (l.length + 1) = 8 + 8 * l.length by omega, fn_add, cat256 _ _ (UInt8.toNat_lt c), ← Nat.xor_assoc, fn_xor 8 (r ^^^ c.toNat), show 256 * num l = 2 ^ 8 * num l from rfl, fn_mul]
/-- a burst: up to 32 bits, from bit k on, in so many bytes, is found -/
theorem burst (l : List UInt8) (k e : Nat) (hn : num l = 2 ^ k * e) (he : e < 4294967296) (h0 : fold 0 l = 0) (hk : k ≤ 8 * l.length) : e = 0 := by
  rw [fold_num, Nat.zero_xor, hn, show 8 * l.length = k + (8 * l.length - k) by omega, fn_add, fn_mul] at h0
  exact fn_inj0 _ e he h0
end Go.Proofs.YtihimcgppifcbaaDoor.Crc
