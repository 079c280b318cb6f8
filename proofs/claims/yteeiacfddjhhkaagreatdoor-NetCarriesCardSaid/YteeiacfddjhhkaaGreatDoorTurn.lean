/- One byte turned in a frame: what is left is no frame (plain: no Go, no memory). -/
import Derived.Test.YteeiacfddjhhkaaGreatDoorWrap
namespace Go.Proofs.YteeiacfddjhhkaaGreatDoor

theorem xor_can (a c : Nat) : (a ^^^ c) ^^^ c = a := by rw [Nat.xor_assoc, Nat.xor_self, Nat.xor_zero]
theorem crcBit_inj {a b : Nat} (ha : a < 4294967296) (hb : b < 4294967296) (h : crcBit a = crcBit b) : a = b := by
  have hlt : ∀ x y : Nat, x < 2147483648 → y < 2147483648 → x ^^^ 2197175160 ≠ y := by
    intro x y hx hy he
    have h1 : 2197175160 = x ^^^ y := by rw [← he, ← Nat.xor_assoc, Nat.xor_self, Nat.zero_xor]
    have h2 := Nat.xor_lt_two_pow (n := 31) (x := x) (y := y) (by omega) (by omega)
    omega
  unfold crcBit at h
  by_cases h1 : a % 2 = 1 <;> by_cases h2 : b % 2 = 1
  · rw [if_pos h1, if_pos h2] at h
    have h3 := congrArg (· ^^^ 2197175160) h
    simp only [xor_can] at h3
    omega
  · rw [if_pos h1, if_neg h2] at h
    exact absurd h (hlt _ _ (by omega) (by omega))
  · rw [if_neg h1, if_pos h2] at h
    exact absurd h.symm (hlt _ _ (by omega) (by omega))
  · rw [if_neg h1, if_neg h2] at h
    omega
theorem crcBits_inj (k : Nat) {a b : Nat} (ha : a < 4294967296) (hb : b < 4294967296) (h : crcBits a k = crcBits b k) : a = b := by
  induction k with
  | zero => exact h
  | succ k ih => exact ih (crcBit_inj (crcBits_lt k ha) (crcBits_lt k hb) h)
theorem crcByte_inj {s t : Nat} (c d : UInt8) (hs : s < 4294967296) (ht : t < 4294967296) (h : crcByte s c = crcByte t d) : s ^^^ c.toNat = t ^^^ d.toNat :=
  crcBits_inj 8 (crcXor_lt c hs) (crcXor_lt d ht) h
theorem crcAll_inj (bs : List UInt8) : ∀ {s t : Nat}, s < 4294967296 → t < 4294967296 → crcAll s bs = crcAll t bs → s = t := by
  induction bs with
  | nil => intro s t _ _ h; exact h
  | cons c r ih =>
    intro s t hs ht h
    have h1 := crcByte_inj c c hs ht (ih (crcByte_lt c hs) (crcByte_lt c ht) h)
    have h2 := congrArg (· ^^^ c.toNat) h1
    simpa only [xor_can] using h2
theorem crc_one {s : Nat} (hs : s < 4294967296) (a b : List UInt8) (c d : UInt8) (h : crcAll s (a ++ c :: b) = crcAll s (a ++ d :: b)) : c = d := by
  rw [crcAll_append, crcAll_append] at h
  have ht := crcAll_lt a hs
  have h1 := crcByte_inj c d ht ht (crcAll_inj b (crcByte_lt c ht) (crcByte_lt d ht) h)
  have h2 := congrArg (fun x => x ^^^ crcAll s a) h1
  simp only [Nat.xor_comm (crcAll s a), xor_can] at h2
  exact UInt8.toNat_inj.1 h2
theorem u8of_inj {a b : Nat} (h : UInt8.ofNat a = UInt8.ofNat b) : a % 256 = b % 256 := by
  have := congrArg UInt8.toNat h
  rwa [UInt8.toNat_ofNat', UInt8.toNat_ofNat'] at this
theorem tailB_inj {s t : Nat} (hs : s < 4294967296) (ht : t < 4294967296) (h : tailB s = tailB t) : s = t := by
  simp only [tailB, List.cons.injEq, and_true] at h
  obtain ⟨h1, h2, h3, h4⟩ := h
  have := u8of_inj h1
  have := u8of_inj h2
  have := u8of_inj h3
  have := u8of_inj h4
  omega
theorem crcSum_inj {a b : List UInt8} (h : crcSum a = crcSum b) : crcAll 4294967295 a = crcAll 4294967295 b := by
  unfold crcSum at h
  have h2 := congrArg (fun x => 4294967295 ^^^ x) h
  simp only [← Nat.xor_assoc, Nat.xor_self, Nat.zero_xor] at h2
  exact h2
/-- One place of a frame is another one: it is no frame. -/
theorem wrap_turned (p q x : List UInt8) (k : Nat) (hlen : x.length = (wrapB p).length) (hk : ∀ j, j ≠ k → x[j]? = (wrapB p)[j]?) (hne : x[k]? ≠ (wrapB p)[k]?) : x ≠ wrapB q := by
  rintro rfl
  rw [wrapB_length, wrapB_length] at hlen
  have hl : q.length = p.length := by omega
  have hpq : ∀ r : List UInt8, r.length = p.length → wrapB r = (headB p.length ++ r) ++ tailB (crcSum (headB p.length ++ r)) := fun r hr => by rw [wrapB, hr]
  have hH : (headB p.length).length = 3 := rfl
  rw [hpq p rfl, hpq q hl] at hk hne
  have hPl : (headB p.length ++ p).length = p.length + 3 := by simp [hH]; omega
  have hQl : (headB p.length ++ q).length = p.length + 3 := by simp [hH]; omega
  generalize headB p.length ++ p = P at *
  generalize headB p.length ++ q = Q at *
  by_cases hkn : k < p.length + 3
  · have hT : tailB (crcSum Q) = tailB (crcSum P) := by
      refine List.ext_getElem? fun j => ?_
      have := hk (p.length + 3 + j) (by omega)
      rwa [List.getElem?_append_right (by omega), List.getElem?_append_right (by omega), hPl, hQl, Nat.add_sub_cancel_left] at this
    have hc := crcSum_inj (tailB_inj (crcSum_lt Q) (crcSum_lt P) hT)
    have hPQ : ∀ j, j ≠ k → Q[j]? = P[j]? := by
      intro j hj
      by_cases hjn : j < p.length + 3
      · have := hk j hj
        rwa [List.getElem?_append_left (by omega), List.getElem?_append_left (by omega)] at this
      · rw [List.getElem?_eq_none (by omega), List.getElem?_eq_none (by omega)]
    have eP : P = P.take k ++ P[k] :: P.drop (k + 1) := by rw [← List.drop_eq_getElem_cons (by omega), List.take_append_drop]
    have eQ : Q = P.take k ++ Q[k] :: P.drop (k + 1) := by
      have e1 : Q.take k = P.take k := by
        refine List.ext_getElem? fun j => ?_
        rw [List.getElem?_take, List.getElem?_take]
        split
        · exact hPQ j (by omega)
        · rfl
      have e2 : Q.drop (k + 1) = P.drop (k + 1) := by
        refine List.ext_getElem? fun j => ?_
        rw [List.getElem?_drop, List.getElem?_drop]
        exact hPQ _ (by omega)
      rw [← e1, ← e2, ← List.drop_eq_getElem_cons (by omega), List.take_append_drop]
    have he : Q[k] = P[k] := crc_one (s := 4294967295) (by omega) (P.take k) (P.drop (k + 1)) _ _ (by rw [← eQ, ← eP]; exact hc)
    refine hne ?_
    rw [List.getElem?_append_left (by omega), List.getElem?_append_left (by omega), List.getElem?_eq_getElem (by omega), List.getElem?_eq_getElem (by omega), he]
  · have hPQ : Q = P := by
      refine List.ext_getElem? fun j => ?_
      by_cases hjn : j < p.length + 3
      · have := hk j (by omega)
        rwa [List.getElem?_append_left (by omega), List.getElem?_append_left (by omega)] at this
      · rw [List.getElem?_eq_none (by omega), List.getElem?_eq_none (by omega)]
    exact hne (by rw [hPQ])
/-- A bit of a byte turned: another byte. -/
theorem turn_ne (b : UInt8) (k : Nat) (hk : k < 8) : b ^^^ UInt8.ofNat (2 ^ k) ≠ b := by
  intro h
  have h1 := congrArg (fun x => b ^^^ x) h
  simp only [← UInt8.xor_assoc, UInt8.xor_self, UInt8.zero_xor] at h1
  have h2 := congrArg UInt8.toNat h1
  rw [UInt8.toNat_ofNat', Nat.mod_eq_of_lt (by have := Nat.pow_lt_pow_right (a := 2) (by decide) hk; simpa using this)] at h2
  have := Nat.pow_pos (n := k) (show 0 < 2 by decide)
  simp at h2
end Go.Proofs.YteeiacfddjhhkaaGreatDoor
