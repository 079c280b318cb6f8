/- Numbers out of bytes, read back (plain words). -/
import Derived.Test.YteeiacfddjhhkaaGreatDoorPlain
namespace Go.Proofs.YteeiacfddjhhkaaGreatDoor

def beN (l : List UInt8) : Nat := l.foldl (fun a c => a * 256 + c.toNat) 0
theorem beN_snoc (l : List UInt8) (b : UInt8) : beN (l ++ [b]) = beN l * 256 + b.toNat := by simp [beN]
theorem beN_digs : ∀ (f n : Nat), n < 256 ^ f → beN (digs f n) = n
  | 0, n, h => by
    have : n = 0 := by simpa using h
    subst this
    rfl
  | f + 1, n, h => by
    rw [digs]
    split
    · rename_i h0; subst h0; rfl
    · rw [beN_snoc, beN_digs f (n / 256) (by rw [Nat.pow_succ] at h; omega), UInt8.toNat_ofNat']
      omega
theorem digs_head : ∀ (f n : Nat), n < 256 ^ f → ∀ b, (digs f n)[0]? = some b → b.toNat ≠ 0
  | 0, n, h, b, hb => by simp [digs] at hb
  | f + 1, n, h, b, hb => by
    rw [digs] at hb
    split at hb
    · simp at hb
    · rename_i h0
      have hd : n / 256 < 256 ^ f := by rw [Nat.pow_succ] at h; omega
      by_cases h1 : digs f (n / 256) = []
      · have h2 := beN_digs f _ hd
        rw [h1] at h2
        have h3 : n / 256 = 0 := h2.symm
        rw [h1] at hb
        simp at hb
        rw [← hb, UInt8.toNat_ofNat']
        omega
      · rw [List.getElem?_append_left (by have := List.length_pos_iff.2 h1; omega)] at hb
        exact digs_head f _ hd b hb
theorem beN_lt : ∀ (l : List UInt8) (a : Nat), l.foldl (fun a c => a * 256 + c.toNat) a < (a + 1) * 256 ^ l.length
  | [], a => by simp
  | b :: l, a => by
    rw [List.foldl_cons, List.length_cons]
    refine Nat.lt_of_lt_of_le (beN_lt l _) ?_
    have e : (a + 1) * 256 ^ (l.length + 1) = ((a + 1) * 256) * 256 ^ l.length := by rw [Nat.pow_succ, Nat.mul_comm (256 ^ l.length) 256, Nat.mul_assoc]
    rw [e]
    refine Nat.mul_le_mul_right _ ?_
    have := b.toNat_lt
    omega
theorem beN_le {l : List UInt8} (k : Nat) (h : l.length ≤ k) : beN l < 256 ^ k := by
  have h1 := beN_lt l 0
  have h2 : 256 ^ l.length ≤ 256 ^ k := Nat.pow_le_pow_right (by decide) h
  unfold beN
  omega
/-- A number with a sign, unfolded. -/
theorem zig_even (n : Int) : (zig n % 2 = 0 ∧ (zig n / 2 : Int) = n ∧ 0 ≤ n) ∨ (zig n % 2 = 1 ∧ ((zig n / 2 : Nat) : Int) = -n - 1 ∧ n < 0) := by
  unfold zig
  split <;> omega
theorem natB_small {n : Nat} (h : n < 256) : (natB n).length ≤ 2 := by
  have h0 : ∀ f, digs f 0 = [] := fun f => by cases f <;> simp [digs]
  have h1 : (digs 8 n).length ≤ 1 := by
    rw [digs]
    split
    · simp
    · rw [show n / 256 = 0 by omega, h0]; simp
  simp [natB]; omega
theorem natB_cons (n : Nat) : natB n = UInt8.ofNat (digs 8 n).length :: digs 8 n := rfl
end Go.Proofs.YteeiacfddjhhkaaGreatDoor
