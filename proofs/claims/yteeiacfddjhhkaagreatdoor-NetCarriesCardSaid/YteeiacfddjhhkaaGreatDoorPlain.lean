/- Plain words: numbers as bytes, operations and messages as bytes (no Go, no memory). -/
namespace Go.Proofs.YteeiacfddjhhkaaGreatDoor

/-- The digits of a number to the base 256, the highest first, at most f. -/
def digs : Nat → Nat → List UInt8
  | 0, _ => []
  | f + 1, n => if n = 0 then [] else digs f (n / 256) ++ [UInt8.ofNat n]
/-- The lowest k digits. -/
def low (n : Nat) : Nat → List UInt8
  | 0 => []
  | k + 1 => UInt8.ofNat (n / 256 ^ k) :: low n k
def natB (n : Nat) : List UInt8 := UInt8.ofNat (digs 8 n).length :: digs 8 n
theorem low_length (n k : Nat) : (low n k).length = k := by
  induction k with
  | zero => rfl
  | succ k ih => simp [low, ih]
theorem low_snoc (n k : Nat) : low n (k + 1) = low (n / 256) k ++ [UInt8.ofNat n] := by
  induction k with
  | zero => simp [low]
  | succ k ih =>
    rw [low, ih, low]
    have : n / 256 ^ (k + 1) = n / 256 / 256 ^ k := by rw [Nat.div_div_eq_div_mul, Nat.pow_succ, Nat.mul_comm]
    rw [this]
    rfl
theorem digs_low (f : Nat) : ∀ (n k : Nat), k ≤ f → n / 256 ^ k = 0 → (k = 0 ∨ 0 < n / 256 ^ (k - 1)) → digs f n = low n k := by
  induction f with
  | zero =>
    intro n k hk _ _
    have : k = 0 := by omega
    subst this
    rfl
  | succ f ih =>
    intro n k hk h0 h1
    cases k with
    | zero =>
      have : n = 0 := by simpa using h0
      subst this
      rfl
    | succ k =>
      have hn : n ≠ 0 := by
        rintro rfl
        rcases h1 with h1 | h1
        · omega
        · simp at h1
      rw [digs, if_neg hn, low_snoc]
      congr 1
      have e1 : n / 256 / 256 ^ k = n / 256 ^ (k + 1) := by rw [Nat.div_div_eq_div_mul, Nat.pow_succ, Nat.mul_comm]
      refine ih _ _ (by omega) (by rw [e1]; exact h0) ?_
      cases k with
      | zero => exact .inl rfl
      | succ k =>
        right
        have e2 : n / 256 / 256 ^ k = n / 256 ^ (k + 1) := by rw [Nat.div_div_eq_div_mul, Nat.pow_succ, Nat.mul_comm]
        rcases h1 with h1 | h1
        · omega
        · simp only [Nat.add_sub_cancel] at h1 ⊢; rw [e2]; exact h1
theorem digs_length (f n : Nat) : (digs f n).length ≤ f := by
  induction f generalizing n with
  | zero => simp [digs]
  | succ f ih =>
    rw [digs]
    split
    · simp
    · have := ih (n / 256); simp; omega
theorem natB_low {n k : Nat} (hk : k ≤ 8) (h0 : n / 256 ^ k = 0) (h1 : k = 0 ∨ 0 < n / 256 ^ (k - 1)) : natB n = UInt8.ofNat k :: low n k := by
  unfold natB
  rw [digs_low 8 n k hk h0 h1, low_length]
theorem natB_length (n : Nat) : (natB n).length ≤ 9 := by
  have := digs_length 8 n
  simp [natB]; omega
/-- A number with a sign, folded. -/
def zig (n : Int) : Nat := if 0 ≤ n then (2 * n).toNat else (-2 * n - 1).toNat
def numB (n : Int) : List UInt8 := natB (zig n)
theorem numB_length (n : Int) : (numB n).length ≤ 9 := natB_length _
/-- A text. -/
def strB (s : List UInt8) : List UInt8 := natB s.length ++ s
/-- A letter of a key. -/
def letC (c : UInt8) : Bool := (97 ≤ c.toNat && c.toNat ≤ 122) || (48 ≤ c.toNat && c.toNat ≤ 57) || c.toNat == 46 || c.toNat == 95
def letS (s : List UInt8) : Bool := s.all letC && !s.isEmpty
def keyS (s : List UInt8) : Bool := decide (s.length ≤ 16) && letS s
/-- An operation. -/
structure POp where
  kind : Int
  key : ByteArray
  n : Int
  lo : Int
def opB (o : POp) : List UInt8 := natB o.kind.toNat ++ strB o.key.data.toList ++ numB o.n ++ numB o.lo
def opsB (l : List POp) : List UInt8 := natB l.length ++ (l.map opB).flatten
end Go.Proofs.YteeiacfddjhhkaaGreatDoor
