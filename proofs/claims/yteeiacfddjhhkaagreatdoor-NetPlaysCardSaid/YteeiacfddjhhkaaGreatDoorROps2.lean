/- The document's sum, bit by bit, is the plain function crcSum (plain words). The document's numbers and texts as bytes, its sum: the same plain words as the program's. The document's letters, Key, May, Check, Encode of operations: the same plain words as the program's. The document's Check and Encode of operations. -/
import Derived.Test.YteeiacfddjhhkaaGreatDoorOpsCheck
import Derived.Laws.OwnMore
namespace Go.Proofs.YteeiacfddjhhkaaGreatDoor
set_option maxRecDepth 100000

def refBit (s b : Nat) : Nat := if b = s % 2 then s / 2 else (s / 2) ^^^ 2197175160
def refC (bs : List UInt8) (i : Nat) : Nat := (bs[i / 8]?.getD 0).toNat
/-- The document's sum behind i bits. -/
def refAt (bs : List UInt8) (i : Nat) : Nat := crcBits (crcAll 4294967295 (bs.take (i / 8)) ^^^ refC bs i) (i % 8) ^^^ (refC bs i / 2 ^ (i % 8))
theorem refBit_xor (t d : Nat) : refBit (t ^^^ d) (d % 2) = crcBit t ^^^ (d / 2) := by
  have h1 : (t ^^^ d) % 2 = (t + d) % 2 := by
    have h := Nat.xor_mod_two_eq_one (a := t) (b := d)
    omega
  have h2 : (t ^^^ d) / 2 = t / 2 ^^^ d / 2 := Nat.xor_div_two
  unfold refBit crcBit
  rw [h1, h2]
  by_cases h : t % 2 = 1
  · rw [if_neg (by omega), if_pos h, Nat.xor_assoc, Nat.xor_assoc, Nat.xor_comm (d / 2)]
  · rw [if_pos (by omega), if_neg h]
theorem refAt_zero (bs : List UInt8) : refAt bs 0 = 4294967295 := by
  unfold refAt
  simp [crcBits, crcAll, Nat.xor_assoc]
theorem refAt_succ (bs : List UInt8) (i : Nat) (h : i < 8 * bs.length) : refAt bs (i + 1) = refBit (refAt bs i) (refC bs i / 2 ^ (i % 8) % 2) := by
  unfold refAt
  rw [refBit_xor]
  have e : crcBit (crcBits (crcAll 4294967295 (bs.take (i / 8)) ^^^ refC bs i) (i % 8)) = crcBits (crcAll 4294967295 (bs.take (i / 8)) ^^^ refC bs i) (i % 8 + 1) := rfl
  have e2 : refC bs i / 2 ^ (i % 8) / 2 = refC bs i / 2 ^ (i % 8 + 1) := by rw [Nat.div_div_eq_div_mul, Nat.pow_succ]
  rw [e, e2]
  by_cases h7 : i % 8 = 7
  · have h1 : (i + 1) / 8 = i / 8 + 1 := by omega
    have h2 : (i + 1) % 8 = 0 := by omega
    have hq : i / 8 < bs.length := by omega
    have hc : refC bs i = (bs[i / 8]).toNat := by unfold refC; rw [List.getElem?_eq_getElem hq]; rfl
    have hl := (bs[i / 8]).toNat_lt
    have h3 : refC bs i / 2 ^ 8 = 0 := by rw [hc]; omega
    rw [h1, h2, h7, crcAll_snoc _ _ _ hq, show (7 : Nat) + 1 = 8 from rfl, h3, hc]
    simp [crcBits, Nat.xor_assoc, crcByte]
  · have h1 : (i + 1) / 8 = i / 8 := by omega
    have h2 : (i + 1) % 8 = i % 8 + 1 := by omega
    have h3 : refC bs (i + 1) = refC bs i := by unfold refC; rw [h1]
    rw [h1, h2, h3]
theorem refAt_lt (bs : List UInt8) (i : Nat) : refAt bs i < 4294967296 := by
  have hc : refC bs i < 256 := (bs[i / 8]?.getD 0).toNat_lt
  have h1 : crcAll 4294967295 (bs.take (i / 8)) < 4294967296 := crcAll_lt _ (by omega)
  have h2 : crcAll 4294967295 (bs.take (i / 8)) ^^^ refC bs i < 4294967296 := Nat.xor_lt_two_pow (n := 32) h1 (by omega)
  have h3 : refC bs i / 2 ^ (i % 8) < 4294967296 := Nat.lt_of_le_of_lt (Nat.div_le_self _ _) (by omega)
  exact Nat.xor_lt_two_pow (n := 32) (crcBits_lt _ h2) h3
theorem ones32 (a : Nat) (h : a < 4294967296) : 4294967295 ^^^ a = 4294967295 - a := by
  have e : 4294967295 - a = 2 ^ 32 - (a + 1) := by omega
  rw [e]
  refine Nat.eq_of_testBit_eq fun i => ?_
  rw [Nat.testBit_two_pow_sub_succ (by omega), Nat.testBit_xor, show (4294967295 : Nat) = 2 ^ 32 - 1 from rfl, Nat.testBit_two_pow_sub_one]
  by_cases hi : i < 32
  · simp [hi]
  · have : a.testBit i = false := Nat.testBit_lt_two_pow (Nat.lt_of_lt_of_le h (Nat.pow_le_pow_right (n := 2) (by decide) (show 32 ≤ i by omega)))
    simp [hi, this]
theorem refAt_end (bs : List UInt8) : 4294967295 - refAt bs (8 * bs.length) = crcSum bs := by
  have h1 : 8 * bs.length / 8 = bs.length := by omega
  have h2 : 8 * bs.length % 8 = 0 := by omega
  have e : refAt bs (8 * bs.length) = crcAll 4294967295 bs := by
    unfold refAt refC
    rw [h1, h2, List.take_length]
    simp [crcBits]
  rw [e, crcSum, ones32 _ (crcAll_lt _ (by omega))]
end Go.Proofs.YteeiacfddjhhkaaGreatDoor
namespace Go.Proofs.YteeiacfddjhhkaaGreatDoor
open Go.RowKit
set_option maxRecDepth 100000

/-- A literal of bytes that a call has just laid. -/
theorem OB.lit {w : World} {base n b : Nat} {cs : Array Value} {bs : List UInt8} (hb : b = w.heap.size) (hc : cs.toList = u8s bs) (hn : n = bs.length) (h0 : base ≤ w.heap.size) (hm : bs.length ≤ maxLen) : OB (w.alloc (.cells cs 5)) base (.slice (some ⟨b, 0, none⟩) n n) bs := by
  subst hn hb
  have hs : cs.size = bs.length * 1 := by rw [← Array.length_toList, hc, u8s_length, Nat.mul_one]
  have h := World.ownsRow_lit (base := base) (e := 5) (size := 1) w cs bs.length h0 hm hs
  rw [hc] at h
  exact h
theorem rnat_any (n : Nat) (hn : n < 18446744073709551616) (w : World) :
    Calls Tryz.prog 106 #[.int .u64 n] w (RetB w (natB n)) := by
  have hN := Lib.hid hn
  go_enter Tryz.func106, Tryz.ntmps106
  go_wp2_with fail
  go_loopw [0, 3] (fun x b wr => ∃ k : Nat, k ≤ 8 ∧ x = .int .u64 (n / 256 ^ k : Nat) ∧ Hid (k = 0 ∨ 0 < n / 256 ^ (k - 1)) ∧ OB wr w.heap.size b (low n k) ∧ Below w.heap.size w wr) (fun x _ _ => (intOf x).toNat)
  case atStart => exact ⟨0, by omega, by simp, .inl rfl, OB.nil _ _, Below.refl _ _⟩
  case round =>
    obtain ⟨k, hk, rfl, hp, hO_, hB_⟩ := hrel
    have hO := Lib.hid hO_
    have hB := Lib.hid hB_
    obtain ⟨A, c, rfl⟩ := own_slice hO_
    clear hO_ hB_
    have hlow := low_length n k
    rw [hlow] at hO ⊢
    generalize hx : n / 256 ^ k = x at *
    have hX := Lib.hid hx
    clear hx
    by_cases h0 : 0 < x
    · have hk8 : k < 8 := by
        rcases Nat.lt_or_ge k 8 with h | h
        · exact h
        · have : k = 8 := by omega
          subst this
          have h1 := hX.out
          have h2 := hN.out
          omega
      have hlt9 : x < 18446744073709551616 := by rw [← hX.out]; exact Nat.lt_of_le_of_lt (Nat.div_le_self _ _) hN.out
      have hw9 : IntKind.u64.wrap ((x : Int) / 256) = (x : Int) / 256 := by rw [IntKind.wrap_u64]; omega
      have e4 : Hid ([UInt8.ofNat x] ++ low n k = low n (k + 1)) := Lib.hid (by rw [← hX.out]; rfl)
      have hL := Lib.hid hlow
      clear hlow
      have hB1 := Lib.hid (below_alloc hB.out (.cells #[.int .u8 ((x : Int) % 256)] 5))
      go_wp2_with (at_builtin; refine list_of_wp rfl ?_; refine wp_append_B (.tmp 9) (.tmp 10) rfl w.heap.size (.slice (some ⟨wr.heap.size, 0, none⟩) 1 1) (.slice A k c) [UInt8.ofNat x] (low n k) _ e4.out rfl ?c1 rfl ?c2 ?c3 ?c4 ?_)
      case c1 => exact OB.lit rfl (by simp [u8s]) rfl hB.out.size (by simp [maxLen])
      case c2 =>
        have h := (RB.of_own hO.out).below (below_alloc (Below.refl _ _) (.cells #[.int .u8 ((x : Int) % 256)] 5))
        exact h
      case c3 => have := hL.out; simp; omega
      case c4 => exact hB1.out.size
      intro v1 w1 hO1_ hg1_ _
      have hO1 := Lib.hid hO1_
      have hB2 := Lib.hid (hB1.out.grown hg1_ hB1.out.size (by intro j hj; simp [Value.ownBlock] at hj; have := hB.out.size; omega))
      clear hO1_ hg1_
      go_wp2_with fail
      refine ⟨⟨k + 1, by omega, ?_, .inr (by simpa [hX.out] using h0), hO1.out, hB2.out⟩, ?_⟩
      · have : n / 256 ^ (k + 1) = x / 256 := by rw [← hX.out, Nat.div_div_eq_div_mul, Nat.pow_succ]
        rw [this]; rfl
      · simp [intOf]; omega
    · have hx0 : x = 0 := by omega
      subst hx0
      clear h0
      have hnat : Hid ([UInt8.ofNat k] ++ low n k = natB n) := Lib.hid (natB_low hk hX.out hp.out).symm
      have hL := Lib.hid hlow
      clear hlow
      have hB1 := Lib.hid (below_alloc hB.out (.cells #[.int .u8 (k : Int)] 5))
      go_wp2_with (at_builtin; refine list_of_wp rfl ?_; refine wp_append_B (.tmp 17) (.tmp 18) rfl w.heap.size (.slice (some ⟨wr.heap.size, 0, none⟩) 1 1) (.slice A k c) [UInt8.ofNat k] (low n k) _ hnat.out rfl ?c1 rfl ?c2 ?c3 ?c4 ?_)
      case c1 => exact OB.lit rfl (by simp [u8s]; omega) rfl hB.out.size (by simp [maxLen])
      case c2 =>
        have h := (RB.of_own hO.out).below (below_alloc (Below.refl _ _) (.cells #[.int .u8 (k : Int)] 5))
        exact h
      case c3 => have := hL.out; simp; omega
      case c4 => exact hB1.out.size
      intro v1 w1 hO1_ hg1_ _
      have hO1 := Lib.hid hO1_
      have hB2 := Lib.hid (hB1.out.grown hg1_ hB1.out.size (by intro j hj; simp [Value.ownBlock] at hj; have := hB.out.size; omega))
      clear hO1_ hg1_
      go_wp2_with fail
      go_ret
      exact RetB.mk rfl (v := v1) hO1.out hB2.out
theorem rnum_any (n : Int) (h0 : -9223372036854775808 ≤ n) (h1 : n ≤ 9223372036854775807) (w : World) :
    Calls Tryz.prog 107 #[.int .i64 n] w (RetB w (numB n)) := by
  have hz := Lib.hid (zig_lt h0 h1)
  by_cases hn : n < 0
  · have d1 : decide (n < 0) = true := by simpa using hn
    have e1 : IntKind.i64.wrap (-1 - n) = -1 - n := by rw [IntKind.wrap_i64]; omega
    have e2 : IntKind.u64.wrap (-1 - n) = -1 - n := by rw [IntKind.wrap_u64]; omega
    have e3 : IntKind.u64.wrap (2 * (-1 - n)) = 2 * (-1 - n) := by rw [IntKind.wrap_u64]; omega
    have e4 : IntKind.u64.wrap (2 * (-1 - n) + 1) = 2 * (-1 - n) + 1 := by rw [IntKind.wrap_u64]; omega
    have e5 : Hid (2 * (-1 - n) + 1 = ((zig n : Nat) : Int)) := Lib.hid (by unfold zig; rw [if_neg (by omega)]; omega)
    go_enter Tryz.func107, Tryz.ntmps107
    go_wp2_with fail
    rw [e5.out]
    refine (rnat_any _ hz.out _).mono ?_
    rintro e w' ⟨Av, cv, rfl, hO, hB⟩
    go_wp2_with fail
    go_ret
    exact ⟨Av, cv, rfl, hO, hB⟩
  · have d1 : decide (n < 0) = false := by simpa using hn
    have e2 : IntKind.u64.wrap n = n := by rw [IntKind.wrap_u64]; omega
    have e3 : IntKind.u64.wrap (2 * n) = 2 * n := by rw [IntKind.wrap_u64]; omega
    have e5 : Hid (2 * n = ((zig n : Nat) : Int)) := Lib.hid (by unfold zig; rw [if_pos (by omega)]; omega)
    go_enter Tryz.func107, Tryz.ntmps107
    go_wp2_with fail
    rw [e5.out]
    refine (rnat_any _ hz.out _).mono ?_
    rintro e w' ⟨Av, cv, rfl, hO, hB⟩
    go_wp2_with fail
    go_ret
    exact ⟨Av, cv, rfl, hO, hB⟩
theorem rstr_any (s : ByteArray) (hs : s.size ≤ 140737488355000) (w : World) :
    Calls Tryz.prog 109 #[.string s] w (RetB w (strB s.data.toList)) := by
  go_enter Tryz.func109, Tryz.ntmps109
  go_wp2_with fail
  refine (rnat_any _ (by omega) _).mono ?_
  rintro e w' ⟨Av, cv, rfl, hO, hB⟩
  have hO' := Lib.hid hO
  have hB' := Lib.hid hB
  clear hO hB
  have hst : Hid (natB s.size ++ s.data.toList = strB s.data.toList) := Lib.hid (by simp [strB])
  have hsz : (natB s.size).length + s.data.toList.length ≤ 140737488355328 := by have := natB_length s.size; simp; omega
  have hSZ := Lib.hid hsz
  clear hsz
  go_wp2_with (first
    | (refine list_of_wp rfl ?_; refine wp_conv_SB (.tmp 9) s (by omega) rfl rfl ?_; intro A c w1 hR_ hB_; have hR := Lib.hid hR_; have hB1 := Lib.hid (bnext hB'.out hB_); have hO1 := Lib.hid (hO'.out.below hB_); clear hR_ hB_)
    | (at_builtin; refine list_of_wp rfl (wp_append_B _ _ rfl w.heap.size (.slice Av (natB s.size).length cv) (.slice _ s.size _) (natB s.size) s.data.toList _ hst.out rfl hO1.out rfl hR.out hSZ.out hB1.out.size ?_); intro v' w2 h1 h2 _h3; have h1' := Lib.hid h1; have h2' := Lib.hid (hB1.out.grown h2 hB1.out.size (own_ge hO1.out)); clear h1 h2 _h3))
  go_ret
  exact RetB.mk rfl (v := v') h1'.out h2'.out
end Go.Proofs.YteeiacfddjhhkaaGreatDoor
namespace Go.Proofs.YteeiacfddjhhkaaGreatDoor
open Go.RowKit
set_option maxRecDepth 100000

theorem rletters_any (s : ByteArray) (hs : s.size ≤ 1000000) (w : World) :
    Calls Tryz.prog 153 #[.string s] w fun e w' => e = .returned (.bool (letS s.data.toList)) ∧ w' = w := by
  go_enter Tryz.func153, Tryz.ntmps153
  go_wp2_with fail
  go_loop [3, 4] (fun i _ => ∃ k : Nat, k ≤ s.size ∧ i = .int .i64 k ∧ Hid ((s.data.toList.take k).all letC = true)) (fun i _ => s.size - (intOf i).toNat)
  case atStart => exact ⟨0, by omega, rfl, rfl⟩
  case round =>
    obtain ⟨k, hk, rfl, hl⟩ := hrel
    by_cases hlt : k < s.size
    · have hk2 : k < s.data.toList.length := by simpa using hlt
      have i1 : (k : Int) < s.size := by omega
      obtain ⟨x, hx⟩ : ∃ x, s[k]'hlt = x := ⟨_, rfl⟩
      have hX : s.data.toList[k] = x := by rw [← hx]; rfl
      have hxl := x.toNat_lt
      have hgood : letC x = true → Hid ((s.data.toList.take (k + 1)).all letC = true) := fun h => Lib.hid (by rw [List.take_succ_eq_append_getElem hk2, List.all_append, hl.out, hX]; simp [h])
      have hbad : letC x = false → Hid (letS s.data.toList = false) := fun h => Lib.hid (by
        have : s.data.toList.all letC = false := by
          rw [← List.take_append_drop k s.data.toList, List.all_append, List.drop_eq_getElem_cons hk2, List.all_cons, hX, h]
          simp
        simp [letS, this])
      have hGood := Lib.hid hgood
      have hBad := Lib.hid hbad
      clear hgood hbad hX
      rcases let_cases x with ⟨h1, h2, h3⟩ | ⟨h1, h2, h3⟩ | ⟨h1, h2, h3⟩ | ⟨h1, h2, h3⟩ | ⟨h1, h2, h3⟩ | ⟨h1, h2, h4, h3⟩ | ⟨h1, h2, h4, h3⟩
      · have hG := hGood.out h3
        clear h3
        have lt97 : decide ((x.toNat : Int) < 97) = false := by simp at *; omega
        have gt122 : decide (122 < (x.toNat : Int)) = false := by simp at *; omega
        go_wp2_with fail
        go_round
        case rel => exact ⟨k + 1, by omega, by go_num, hG⟩
        case measure => simp [intOf]; omega
      · have hG := hGood.out h3
        clear h3
        have lt97 : decide ((x.toNat : Int) < 97) = true := by simp at *; omega
        have lt48 : decide ((x.toNat : Int) < 48) = false := by simp at *; omega
        have gt57 : decide (57 < (x.toNat : Int)) = false := by simp at *; omega
        go_wp2_with fail
        go_round
        case rel => exact ⟨k + 1, by omega, by go_num, hG⟩
        case measure => simp [intOf]; omega
      · have hG := hGood.out h3
        clear h3
        have lt97 : decide ((x.toNat : Int) < 97) = true := by simp at *; omega
        have lt48 : decide ((x.toNat : Int) < 48) = true := by simp at *; omega
        have ne46 : ((x.toNat : Int) != 46) = false := by simp at *; omega
        go_wp2_with fail
        go_round
        case rel => exact ⟨k + 1, by omega, by go_num, hG⟩
        case measure => simp [intOf]; omega
      · have hG := hGood.out h3
        clear h3
        have lt97 : decide ((x.toNat : Int) < 97) = true := by simp at *; omega
        have lt48 : decide ((x.toNat : Int) < 48) = false := by simp at *; omega
        have gt57 : decide (57 < (x.toNat : Int)) = true := by simp at *; omega
        have ne46 : ((x.toNat : Int) != 46) = true := by simp at *; omega
        have ne95 : ((x.toNat : Int) != 95) = false := by simp at *; omega
        go_wp2_with fail
        go_round
        case rel => exact ⟨k + 1, by omega, by go_num, hG⟩
        case measure => simp [intOf]; omega
      · have hG := hBad.out h3
        clear h3
        have n46 : ((x.toNat : Int) == 46) = false := by simp at *; omega
        have n95 : ((x.toNat : Int) == 95) = false := by simp at *; omega
        have lt97 : decide ((x.toNat : Int) < 97) = true := by simp at *; omega
        have lt48 : decide ((x.toNat : Int) < 48) = true := by simp at *; omega
        have ne46 : ((x.toNat : Int) != 46) = true := by simp at *; omega
        have ne95 : ((x.toNat : Int) != 95) = true := by simp at *; omega
        go_wp2_with fail
        go_ret
        exact ⟨ret_bool hG.out.symm, rfl⟩
      · have hG := hBad.out h3
        clear h3
        have n46 : ((x.toNat : Int) == 46) = false := by simp at *; omega
        have n95 : ((x.toNat : Int) == 95) = false := by simp at *; omega
        have lt97 : decide ((x.toNat : Int) < 97) = true := by simp at *; omega
        have lt48 : decide ((x.toNat : Int) < 48) = false := by simp at *; omega
        have gt57 : decide (57 < (x.toNat : Int)) = true := by simp at *; omega
        have ne46 : ((x.toNat : Int) != 46) = true := by simp at *; omega
        have ne95 : ((x.toNat : Int) != 95) = true := by simp at *; omega
        go_wp2_with fail
        go_ret
        exact ⟨ret_bool hG.out.symm, rfl⟩
      · have hG := hBad.out h3
        clear h3
        have n46 : ((x.toNat : Int) == 46) = false := by simp at *; omega
        have n95 : ((x.toNat : Int) == 95) = false := by simp at *; omega
        have lt97 : decide ((x.toNat : Int) < 97) = false := by simp at *; omega
        have gt122 : decide (122 < (x.toNat : Int)) = true := by simp at *; omega
        have lt48 : decide ((x.toNat : Int) < 48) = false := by simp at *; omega
        have gt57 : decide (57 < (x.toNat : Int)) = true := by simp at *; omega
        have ne46 : ((x.toNat : Int) != 46) = true := by simp at *; omega
        have ne95 : ((x.toNat : Int) != 95) = true := by simp at *; omega
        go_wp2_with fail
        go_ret
        exact ⟨ret_bool hG.out.symm, rfl⟩
    · have i1 : ¬ (k : Int) < s.size := by omega
      have hk2 : s.data.toList.take k = s.data.toList := List.take_of_length_le (by simp; omega)
      have hl2 := hl.out
      rw [hk2] at hl2
      have hL := Lib.hid hl2
      clear hl2 hk2
      go_wp2_with fail
      go_ret
      refine ⟨ret_bool ?_, rfl⟩
      rw [letS, hL.out]
      have hsz : s.data.toList.length = s.size := by simp
      rw [← hsz]
      cases s.data.toList <;> simp
theorem rkey_any (s : ByteArray) (hs : s.size ≤ 1000000) (w : World) :
    Calls Tryz.prog 152 #[.string s] w fun e w' => e = .returned (.bool (keyS s.data.toList)) ∧ w' = w := by
  by_cases h : (s.size : Int) ≤ 16
  · have hd : decide ((s.size : Int) ≤ 16) = true := by simpa using h
    have hk : Hid (keyS s.data.toList = letS s.data.toList) := Lib.hid (by
      have : s.data.toList.length ≤ 16 := by simp; omega
      simp only [keyS, decide_eq_true this, Bool.true_and])
    go_enter Tryz.func152, Tryz.ntmps152
    go_wp2_with fail
    refine (rletters_any s hs _).mono ?_
    rintro e w1 ⟨rfl, rfl⟩
    go_wp2_with fail
    go_ret
    exact ⟨ret_bool hk.out.symm, rfl⟩
  · have hd : decide ((s.size : Int) ≤ 16) = false := by simpa using h
    have hk : Hid (keyS s.data.toList = false) := Lib.hid (by
      have : ¬ s.data.toList.length ≤ 16 := by simp; omega
      simp only [keyS, decide_eq_false this, Bool.false_and])
    go_enter Tryz.func152, Tryz.ntmps152
    go_wp2_with fail
    go_ret
    exact ⟨ret_bool hk.out.symm, rfl⟩
/-- What the document's May answers: of an operation with anybody's key, whether its numbers may be so. -/
def RMayRet (o : POp) (w : World) (e : Ending) (w' : World) : Prop := ∃ b, e = .returned (.bool b) ∧ (keyS o.key.data.toList = true → b = plainO o) ∧ Below w.heap.size w w'
set_option maxHeartbeats 2000000 in
theorem rmay_any (o : POp) (w : World) (hks : o.key.size ≤ 1000000) :
    Calls Tryz.prog 138 #[opV o] w (RMayRet o w) := by
  obtain ⟨kind, key, n, lo⟩ := o
  show Calls Tryz.prog 138 #[.agg #[.int .i64 kind, .string key, .int .i64 n, .int .i64 lo]] w _
  have hk := fun w => rkey_any key hks w
  generalize hky : keyS key.data.toList = ky at hk
  have hKY := Lib.hid hky
  have hK := Lib.hid hk
  have hl := Lib.hid (fun s hs w => rletters_any s hs w)
  clear hk hky
  have hb0 := Lib.hid (heap_alloc_new w (.cells #[.int .i64 kind, .string key, .int .i64 n, .int .i64 lo] 108))
  have hB0 := Lib.hid (below_alloc (Below.refl _ w) (.cells #[.int .i64 kind, .string key, .int .i64 n, .int .i64 lo] 108))
  have x1 : (w.alloc (.cells #[.int .i64 kind, .string key, .int .i64 n, .int .i64 lo] 108)).cell? ⟨w.heap.size, 1, none⟩ = some (.string key) := by rw [block_cell hb0.out]; rfl
  by_cases h1 : kind < 1
  · have hpl : Hid (plainO ⟨kind, key, n, lo⟩ = false) := Lib.hid (by
      unfold plainO
      simp
      split
      · omega
      · split <;> omega)
    have tk1 : decide (kind < 1) = true := by simp; omega
    clear h1
    go_enter Tryz.func138, Tryz.ntmps138
    go_wp2_with fail
    go_ret
    exact ⟨false, rfl, fun _ => hpl.out.symm, hB0.out⟩
  by_cases h6 : 6 < kind
  · have hpl : Hid (plainO ⟨kind, key, n, lo⟩ = false) := Lib.hid (by
      unfold plainO
      simp
      split
      · omega
      · split <;> omega)
    have tk1 : decide (kind < 1) = false := by simp; omega
    have tk6 : decide (6 < kind) = true := by simp; omega
    clear h1 h6
    go_enter Tryz.func138, Tryz.ntmps138
    go_wp2_with fail
    go_ret
    exact ⟨false, rfl, fun _ => hpl.out.symm, hB0.out⟩
  by_cases h5 : lo ≠ 0 ∧ kind ≠ 5
  · have hpl : Hid (plainO ⟨kind, key, n, lo⟩ = false) := Lib.hid (by
      unfold plainO
      simp
      split
      · omega
      · split <;> omega)
    have tk1 : decide (kind < 1) = false := by simp; omega
    have tk6 : decide (6 < kind) = false := by simp; omega
    have tl0 : (lo != 0) = true := by simp; omega
    have tk5 : (kind != 5) = true := by simp; omega
    clear h1 h6 h5
    go_enter Tryz.func138, Tryz.ntmps138
    go_wp2_with fail
    go_ret
    exact ⟨false, rfl, fun _ => hpl.out.symm, hB0.out⟩
  by_cases hlo : lo = 0
  · by_cases hn : n = 0
    · have hpl : Hid (plainO ⟨kind, key, n, lo⟩ = true) := Lib.hid (by
        unfold plainO
        simp
        split
        · omega
        · split <;> omega)
      have tk1 : decide (kind < 1) = false := by simp; omega
      have tk6 : decide (6 < kind) = false := by simp; omega
      have tl0 : (lo != 0) = false := by simp; omega
      have tn0 : (n != 0) = false := by simp; omega
      clear h1 h6 h5 hlo hn
      go_enter Tryz.func138, Tryz.ntmps138
      go_wp2_with fail
      refine (hK.out _).mono ?_
      rintro e w1 ⟨rfl, rfl⟩
      cases ky
      case true =>
        go_wp2_with fail
        go_ret
        exact ⟨true, rfl, fun _ => hpl.out.symm, hB0.out⟩
      by_cases h16 : (key.size : Int) ≤ 16
      case neg =>
        have d16 : decide ((key.size : Int) ≤ 16) = false := by simpa using h16
        go_wp2_with fail
        go_ret
        exact ⟨false, rfl, fun h => absurd (h.symm.trans hKY.out) (by decide), hB0.out⟩
      have d16 : decide ((key.size : Int) ≤ 16) = true := by simpa using h16
      by_cases h1 : (1 : Int) < key.size
      case neg =>
        have d2 : decide ((1 : Int) < key.size) = false := by simpa using h1
        go_wp2_with fail
        go_ret
        exact ⟨false, rfl, fun h => absurd (h.symm.trans hKY.out) (by decide), hB0.out⟩
      have d2 : decide ((1 : Int) < key.size) = true := by simpa using h1
      have q0 : 0 < key.size := by omega
      have q1 : (0 : Int) < key.size := by omega
      have q2 : (1 : Int) ≤ key.size := by omega
      obtain ⟨x, hx⟩ : ∃ x, key[0]'q0 = x := ⟨_, rfl⟩
      by_cases hx126 : (x.toNat : Int) = 126
      case neg =>
        have d3 : ((x.toNat : Int) == 126) = false := by simpa using hx126
        go_wp2_with fail
        go_ret
        exact ⟨false, rfl, fun h => absurd (h.symm.trans hKY.out) (by decide), hB0.out⟩
      have d3 : ((x.toNat : Int) == 126) = true := by simpa using hx126
      go_wp2_with fail
      refine (hl.out _ (by simp; omega) _).mono ?_
      rintro e w2 ⟨rfl, rfl⟩
      go_wp2_with fail
      go_ret
      exact ⟨_, rfl, fun h => absurd (h.symm.trans hKY.out) (by decide), hB0.out⟩
    · by_cases he1 : kind = 1
      · have hpl : Hid (plainO ⟨kind, key, n, lo⟩ = false) := Lib.hid (by
          unfold plainO
          simp
          split
          · omega
          · split <;> omega)
        have tk1 : decide (kind < 1) = false := by simp; omega
        have tk6 : decide (6 < kind) = false := by simp; omega
        have tl0 : (lo != 0) = false := by simp; omega
        have tn0 : (n != 0) = true := by simp; omega
        have te1 : (kind == 1) = true := by simp; omega
        clear h1 h6 h5 hlo hn he1
        go_enter Tryz.func138, Tryz.ntmps138
        go_wp2_with fail
        go_ret
        exact ⟨false, rfl, fun _ => hpl.out.symm, hB0.out⟩
      · by_cases he3 : kind = 3
        · have hpl : Hid (plainO ⟨kind, key, n, lo⟩ = false) := Lib.hid (by
            unfold plainO
            simp
            split
            · omega
            · split <;> omega)
          have tk1 : decide (kind < 1) = false := by simp; omega
          have tk6 : decide (6 < kind) = false := by simp; omega
          have tl0 : (lo != 0) = false := by simp; omega
          have tn0 : (n != 0) = true := by simp; omega
          have te1 : (kind == 1) = false := by simp; omega
          have te3 : (kind == 3) = true := by simp; omega
          clear h1 h6 h5 hlo hn he1 he3
          go_enter Tryz.func138, Tryz.ntmps138
          go_wp2_with fail
          go_ret
          exact ⟨false, rfl, fun _ => hpl.out.symm, hB0.out⟩
        · have hpl : Hid (plainO ⟨kind, key, n, lo⟩ = true) := Lib.hid (by
            unfold plainO
            simp
            split
            · omega
            · split <;> omega)
          have tk1 : decide (kind < 1) = false := by simp; omega
          have tk6 : decide (6 < kind) = false := by simp; omega
          have tl0 : (lo != 0) = false := by simp; omega
          have tn0 : (n != 0) = true := by simp; omega
          have te1 : (kind == 1) = false := by simp; omega
          have te3 : (kind == 3) = false := by simp; omega
          clear h1 h6 h5 hlo hn he1 he3
          go_enter Tryz.func138, Tryz.ntmps138
          go_wp2_with fail
          refine (hK.out _).mono ?_
          rintro e w1 ⟨rfl, rfl⟩
          cases ky
          case true =>
            go_wp2_with fail
            go_ret
            exact ⟨true, rfl, fun _ => hpl.out.symm, hB0.out⟩
          by_cases h16 : (key.size : Int) ≤ 16
          case neg =>
            have d16 : decide ((key.size : Int) ≤ 16) = false := by simpa using h16
            go_wp2_with fail
            go_ret
            exact ⟨false, rfl, fun h => absurd (h.symm.trans hKY.out) (by decide), hB0.out⟩
          have d16 : decide ((key.size : Int) ≤ 16) = true := by simpa using h16
          by_cases h1 : (1 : Int) < key.size
          case neg =>
            have d2 : decide ((1 : Int) < key.size) = false := by simpa using h1
            go_wp2_with fail
            go_ret
            exact ⟨false, rfl, fun h => absurd (h.symm.trans hKY.out) (by decide), hB0.out⟩
          have d2 : decide ((1 : Int) < key.size) = true := by simpa using h1
          have q0 : 0 < key.size := by omega
          have q1 : (0 : Int) < key.size := by omega
          have q2 : (1 : Int) ≤ key.size := by omega
          obtain ⟨x, hx⟩ : ∃ x, key[0]'q0 = x := ⟨_, rfl⟩
          by_cases hx126 : (x.toNat : Int) = 126
          case neg =>
            have d3 : ((x.toNat : Int) == 126) = false := by simpa using hx126
            go_wp2_with fail
            go_ret
            exact ⟨false, rfl, fun h => absurd (h.symm.trans hKY.out) (by decide), hB0.out⟩
          have d3 : ((x.toNat : Int) == 126) = true := by simpa using hx126
          go_wp2_with fail
          refine (hl.out _ (by simp; omega) _).mono ?_
          rintro e w2 ⟨rfl, rfl⟩
          go_wp2_with fail
          go_ret
          exact ⟨_, rfl, fun h => absurd (h.symm.trans hKY.out) (by decide), hB0.out⟩
  · by_cases hn : n = 0
    · have hpl : Hid (plainO ⟨kind, key, n, lo⟩ = true) := Lib.hid (by
        unfold plainO
        simp
        split
        · omega
        · split <;> omega)
      have tk1 : decide (kind < 1) = false := by simp; omega
      have tk6 : decide (6 < kind) = false := by simp; omega
      have tl0 : (lo != 0) = true := by simp; omega
      have tk5 : (kind != 5) = false := by simp; omega
      have tn0 : (n != 0) = false := by simp; omega
      clear h1 h6 h5 hlo hn
      go_enter Tryz.func138, Tryz.ntmps138
      go_wp2_with fail
      refine (hK.out _).mono ?_
      rintro e w1 ⟨rfl, rfl⟩
      cases ky
      case true =>
        go_wp2_with fail
        go_ret
        exact ⟨true, rfl, fun _ => hpl.out.symm, hB0.out⟩
      by_cases h16 : (key.size : Int) ≤ 16
      case neg =>
        have d16 : decide ((key.size : Int) ≤ 16) = false := by simpa using h16
        go_wp2_with fail
        go_ret
        exact ⟨false, rfl, fun h => absurd (h.symm.trans hKY.out) (by decide), hB0.out⟩
      have d16 : decide ((key.size : Int) ≤ 16) = true := by simpa using h16
      by_cases h1 : (1 : Int) < key.size
      case neg =>
        have d2 : decide ((1 : Int) < key.size) = false := by simpa using h1
        go_wp2_with fail
        go_ret
        exact ⟨false, rfl, fun h => absurd (h.symm.trans hKY.out) (by decide), hB0.out⟩
      have d2 : decide ((1 : Int) < key.size) = true := by simpa using h1
      have q0 : 0 < key.size := by omega
      have q1 : (0 : Int) < key.size := by omega
      have q2 : (1 : Int) ≤ key.size := by omega
      obtain ⟨x, hx⟩ : ∃ x, key[0]'q0 = x := ⟨_, rfl⟩
      by_cases hx126 : (x.toNat : Int) = 126
      case neg =>
        have d3 : ((x.toNat : Int) == 126) = false := by simpa using hx126
        go_wp2_with fail
        go_ret
        exact ⟨false, rfl, fun h => absurd (h.symm.trans hKY.out) (by decide), hB0.out⟩
      have d3 : ((x.toNat : Int) == 126) = true := by simpa using hx126
      go_wp2_with fail
      refine (hl.out _ (by simp; omega) _).mono ?_
      rintro e w2 ⟨rfl, rfl⟩
      go_wp2_with fail
      go_ret
      exact ⟨_, rfl, fun h => absurd (h.symm.trans hKY.out) (by decide), hB0.out⟩
    · have hpl : Hid (plainO ⟨kind, key, n, lo⟩ = true) := Lib.hid (by
        unfold plainO
        simp
        split
        · omega
        · split <;> omega)
      have tk1 : decide (kind < 1) = false := by simp; omega
      have tk6 : decide (6 < kind) = false := by simp; omega
      have tl0 : (lo != 0) = true := by simp; omega
      have tk5 : (kind != 5) = false := by simp; omega
      have tn0 : (n != 0) = true := by simp; omega
      have te1 : (kind == 1) = false := by simp; omega
      have te3 : (kind == 3) = false := by simp; omega
      clear h1 h6 h5 hlo hn
      go_enter Tryz.func138, Tryz.ntmps138
      go_wp2_with fail
      refine (hK.out _).mono ?_
      rintro e w1 ⟨rfl, rfl⟩
      cases ky
      case true =>
        go_wp2_with fail
        go_ret
        exact ⟨true, rfl, fun _ => hpl.out.symm, hB0.out⟩
      by_cases h16 : (key.size : Int) ≤ 16
      case neg =>
        have d16 : decide ((key.size : Int) ≤ 16) = false := by simpa using h16
        go_wp2_with fail
        go_ret
        exact ⟨false, rfl, fun h => absurd (h.symm.trans hKY.out) (by decide), hB0.out⟩
      have d16 : decide ((key.size : Int) ≤ 16) = true := by simpa using h16
      by_cases h1 : (1 : Int) < key.size
      case neg =>
        have d2 : decide ((1 : Int) < key.size) = false := by simpa using h1
        go_wp2_with fail
        go_ret
        exact ⟨false, rfl, fun h => absurd (h.symm.trans hKY.out) (by decide), hB0.out⟩
      have d2 : decide ((1 : Int) < key.size) = true := by simpa using h1
      have q0 : 0 < key.size := by omega
      have q1 : (0 : Int) < key.size := by omega
      have q2 : (1 : Int) ≤ key.size := by omega
      obtain ⟨x, hx⟩ : ∃ x, key[0]'q0 = x := ⟨_, rfl⟩
      by_cases hx126 : (x.toNat : Int) = 126
      case neg =>
        have d3 : ((x.toNat : Int) == 126) = false := by simpa using hx126
        go_wp2_with fail
        go_ret
        exact ⟨false, rfl, fun h => absurd (h.symm.trans hKY.out) (by decide), hB0.out⟩
      have d3 : ((x.toNat : Int) == 126) = true := by simpa using hx126
      go_wp2_with fail
      refine (hl.out _ (by simp; omega) _).mono ?_
      rintro e w2 ⟨rfl, rfl⟩
      go_wp2_with fail
      go_ret
      exact ⟨_, rfl, fun h => absurd (h.symm.trans hKY.out) (by decide), hB0.out⟩
end Go.Proofs.YteeiacfddjhhkaaGreatDoor
namespace Go.Proofs.YteeiacfddjhhkaaGreatDoor
open Go.RowKit
set_option maxRecDepth 100000

theorem rcheck_any (A : Option Addr) (c : Nat) (l : List POp) (w : World) (hr : RowAt w A (opsC l)) (hl : l.length ≤ 1000000) (hk : ∀ o ∈ l, o.key.size ≤ 1000000) :
    Calls Tryz.prog 134 #[.slice A l.length c] w fun e w' => e = .returned (.int .i64 (checkO l)) ∧ Below w.heap.size w w' := by
  by_cases h8 : 8 < l.length
  · have hC : Hid (checkO l = 7) := Lib.hid (by rw [checkO, if_pos h8])
    go_enter Tryz.func134, Tryz.ntmps134
    go_wp2_with fail
    go_ret
    exact ⟨ret_int hC.out.symm, Below.refl _ _⟩
  · have hR := Lib.hid hr
    have hK := Lib.hid hk
    clear hr hk
    go_enter Tryz.func134, Tryz.ntmps134
    go_wp2_with fail
    go_loopw [4, 10] (fun _ i wr => ∃ k : Nat, k ≤ l.length ∧ i = .int .i64 k ∧ Hid ((l.take k).all goodO = true) ∧ Below w.heap.size w wr) (fun _ i _ => l.length - (intOf i).toNat)
    case atStart => exact ⟨0, by omega, rfl, rfl, Below.refl _ _⟩
    case round =>
      obtain ⟨k, hk, rfl, hG, hB_⟩ := hrel
      have hB := Lib.hid hB_
      clear hB_
      by_cases hlt : k < l.length
      · obtain ⟨ad, rfl, c0, c1, c2, c3⟩ := ops_at (hR.out.below hB.out) hlt
        have hxk := hK.out _ (List.getElem_mem hlt)
        have hgood : goodO l[k] = true → Hid ((l.take (k + 1)).all goodO = true) := fun h => Lib.hid (by rw [List.take_succ_eq_append_getElem hlt, List.all_append, hG.out]; simp [h])
        have hbad : goodO l[k] = false → Hid (checkO l = 2) := fun h => Lib.hid (by
          have : l.all goodO = false := by
            rw [← List.take_append_drop k l, List.all_append, List.drop_eq_getElem_cons hlt, List.all_cons, h]
            simp
          rw [checkO, if_neg h8, this]; rfl)
        have hGood := Lib.hid hgood
        have hBad := Lib.hid hbad
        clear hgood hbad
        generalize hx : l[k] = x at *
        have hX := Lib.hid hx
        clear hx
        have hp := fun w => rmay_any x w (by omega)
        obtain ⟨kind, key, n, lo⟩ := x
        simp only at c0 c1 c2 c3 hxk
        have hP := Lib.hid hp
        clear hp
        have hky := Lib.hid (fun w => rkey_any key hxk w)
        have hB1 := Lib.hid (below_alloc hB.out (.cells #[.int .i64 kind, .string key, .int .i64 n, .int .i64 lo] 108))
        go_wp2_with fail
        refine (hP.out _).mono ?_
        rintro e w1 ⟨b, rfl, hb, hB2_⟩
        have hB2 := Lib.hid (bnext hB1.out hB2_)
        have hcell := cell_below hB2_ (a := ⟨wr.heap.size, 1, none⟩) (v := .string key) (by simp)
        clear hB2_
        by_cases hks : keyS key.data.toList = true
        · have hb2 := hb hks
          subst hb2
          by_cases hpl : plainO ⟨kind, key, n, lo⟩ = true
          · have hgg := hGood.out (by simp [goodO, hpl, hks])
            rw [hpl]
            rw [hks] at hky
            clear hpl hks hb
            go_wp2_with fail
            refine (hky.out _).mono ?_
            rintro e w2 ⟨rfl, rfl⟩
            go_wp2_with fail
            go_roundw
            case rel => exact ⟨k + 1, by omega, by go_num, hgg, hB2.out⟩
            case measure => simp [intOf]; omega
          · have hpl' : plainO ⟨kind, key, n, lo⟩ = false := by simpa using hpl
            have hgg := hBad.out (by simp [goodO, hpl'])
            rw [hpl']
            clear hpl hpl' hks hb
            go_wp2_with fail
            go_ret
            exact ⟨ret_int hgg.out.symm, hB2.out⟩
        · have hks' : keyS key.data.toList = false := by simpa using hks
          have hgg := hBad.out (by simp [goodO, hks'])
          rw [hks'] at hky
          clear hks hks' hb
          cases b
          · go_wp2_with fail
            go_ret
            exact ⟨ret_int hgg.out.symm, hB2.out⟩
          · go_wp2_with fail
            refine (hky.out _).mono ?_
            rintro e w2 ⟨rfl, rfl⟩
            go_wp2_with fail
            go_ret
            exact ⟨ret_int hgg.out.symm, hB2.out⟩
      · have hk2 : l.take k = l := List.take_of_length_le (by omega)
        have hG2 := hG.out
        rw [hk2] at hG2
        have hC : Hid (checkO l = 0) := Lib.hid (by rw [checkO, if_neg h8, hG2]; rfl)
        go_wp2_with fail
        go_ret
        exact ⟨ret_int hC.out.symm, hB.out⟩
theorem rnat_int (n : Int) (h0 : 0 ≤ n) (h1 : n < 18446744073709551616) (w : World) :
    Calls Tryz.prog 106 #[.int .u64 n] w (RetB w (natB n.toNat)) := by
  obtain ⟨m, rfl⟩ := Int.eq_ofNat_of_zero_le h0
  rw [Int.toNat_natCast]
  exact rnat_any m (by omega) w
set_option maxHeartbeats 1000000 in
theorem ropsEnc_any (A : Option Addr) (c : Nat) (l : List POp) (w : World) (hr : RowAt w A (opsC l)) (hl : l.length ≤ 1000000) (hok : ∀ o ∈ l, o.ok ∧ 0 ≤ o.kind) (hk : ∀ o ∈ l, o.key.size ≤ 1000000) :
    Calls Tryz.prog 110 #[.slice A l.length c] w (RetB w (opsB l)) := by
  have hOK := Lib.hid hok
  have hK := Lib.hid hk
  have hR := Lib.hid hr
  clear hok hk hr
  go_enter Tryz.func110, Tryz.ntmps110
  go_wp2_with fail
  refine (rnat_any _ (by omega) _).mono ?_
  rintro e w' ⟨Av, cv, rfl, hO, hB⟩
  have hO' := Lib.hid hO
  have hB' := Lib.hid hB
  clear hO hB
  go_wp2_with fail
  go_loopw [3, 5, 12] (fun s _ i wr => ∃ k : Nat, k ≤ l.length ∧ i = .int .i64 k ∧ OB wr w.heap.size s (natB l.length ++ ((l.take k).map opB).flatten) ∧ Below w.heap.size w wr) (fun _ _ i _ => l.length - (intOf i).toNat)
  case atStart => exact ⟨0, by omega, rfl, by simpa using hO'.out, hB'.out⟩
  case round =>
    obtain ⟨k, hk, rfl, hO, hB⟩ := hrel
    have hO2 := Lib.hid hO
    have hB2 := Lib.hid hB
    clear hO hB hO' hB'
    by_cases hlt : k < l.length
    · obtain ⟨ad, rfl, c0, c1, c2, c3⟩ := ops_at (hR.out.below hB2.out) hlt
      generalize hx : l[k] = x at *
      obtain ⟨kind, key, n, lo⟩ := x
      have hX := Lib.hid hx
      clear hx
      simp only at c0 c1 c2 c3
      have hx := hOK.out _ (List.getElem_mem hlt)
      have hxk := hK.out _ (List.getElem_mem hlt)
      rw [hX.out] at hx hxk
      obtain ⟨⟨⟨k0, k1⟩, ⟨n0, n1⟩, ⟨l0, l1⟩⟩, kpos⟩ := hx
      simp only at k0 k1 n0 n1 l0 l1 kpos hxk
      have kle : kind < 18446744073709551616 := by omega
      have kwr : IntKind.u64.wrap kind = kind := by rw [IntKind.wrap_u64]; omega
      have kel : key.size ≤ 140737488355000 := by omega
      have hb0 := Lib.hid (heap_alloc_new wr (.cells #[.int .i64 kind, .string key, .int .i64 n, .int .i64 lo] 108))
      have hB3 := Lib.hid (below_alloc hB2.out (.cells #[.int .i64 kind, .string key, .int .i64 n, .int .i64 lo] 108))
      have hA0 := Lib.hid (below_alloc (Below.refl _ wr) (.cells #[.int .i64 kind, .string key, .int .i64 n, .int .i64 lo] 108))
      obtain ⟨bs0, hbs0⟩ : ∃ bs, natB l.length ++ (List.map opB (List.take k l)).flatten = bs := ⟨_, rfl⟩
      have hlen0 : bs0.length ≤ 9 + k * 1000036 := by
        have h1 := natB_length l.length
        have h2 : (List.map opB (List.take k l)).flatten.length ≤ k * 1000036 := flat_le _ _ _ (by simp; omega) (fun o ho => by
          have h1 := opB_length o
          have h2 := hK.out o (List.mem_of_mem_take ho)
          omega)
        rw [← hbs0, List.length_append]
        omega
      have hLEN0 := Lib.hid hlen0
      have hBS0 := Lib.hid hbs0
      have hV0 : Hid (OB (wr.alloc (.cells #[.int .i64 kind, .string key, .int .i64 n, .int .i64 lo] 108)) w.heap.size u3 bs0) := Lib.hid (by rw [← hbs0]; exact hO2.out.below hA0.out)
      have hne0 : Hid (some wr.heap.size ≠ u3.ownBlock) := Lib.hid (fun h => by have := (hO2.out.lt _ h.symm).2; omega)
      clear hlen0 hbs0
      go_wp2_with fail
      have hq9 : Hid (wr.heap.size < (wr.alloc (.cells #[.int .i64 kind, .string key, .int .i64 n, .int .i64 lo] 108)).heap.size) := Lib.hid (by rw [World.size_alloc]; omega)
      generalize wr.alloc (.cells #[.int .i64 kind, .string key, .int .i64 n, .int .i64 lo] 108) = W0 at *
      refine (rnat_int kind kpos kle _).mono ?_
      rintro e w1 ⟨A1, d1, rfl, hO1_, hB1_⟩
      have hO1 := Lib.hid hO1_
      have hV0b := Lib.hid (hV0.out.below hB1_)
      have hb0b := Lib.hid (block_below hB1_ hb0.out)
      have hB0b := Lib.hid (bnext hB3.out hB1_)
      have hq0b : Hid (wr.heap.size < w1.heap.size) := Lib.hid (Nat.lt_of_lt_of_le hq9.out hB1_.size)
      clear hO1_ hB1_
      obtain ⟨bs1, hbs1⟩ : ∃ bs, bs0 ++ natB kind.toNat = bs := ⟨_, rfl⟩
      have hBS1 := Lib.hid hbs1
      have hLEN1 : Hid (bs1.length ≤ 9 + k * 1000036 + 9) := Lib.hid (by
        have h1 := hLEN0.out
        have h2 : (natB kind.toNat).length ≤ 9 := by
          exact natB_length _
          done
        rw [← hbs1, List.length_append]
        omega)
      have hTL1 : Hid (bs0.length + (natB kind.toNat).length ≤ 140737488355328) := Lib.hid (by
        have h1 := hLEN1.out
        rw [← List.length_append, hbs1]
        omega)
      clear hbs1
      go_wp2_with (at_builtin; refine list_of_wp rfl ?_; refine wp_append_B (.tmp 16) (.tmp 20) rfl w.heap.size u3 (.slice A1 (natB kind.toNat).length d1) bs0 (natB kind.toNat) _ hBS1.out rfl hV0b.out rfl (RB.of_own hO1.out) hTL1.out hB0b.out.size ?_)
      intro v1 W1 hV1_ hg1_ hv1_
      have hV1 := Lib.hid hV1_
      have hb1 := Lib.hid ((hg1_.block _ (lt_of_block hb0b.out) hne0.out).trans hb0b.out)
      have hB1c := Lib.hid (hB0b.out.grown hg1_ hB0b.out.size (own_ge hV0b.out))
      have hq1c : Hid (wr.heap.size < W1.heap.size) := Lib.hid (Nat.lt_of_lt_of_le hq0b.out hg1_.size)
      have hne1 : Hid (some wr.heap.size ≠ v1.ownBlock) := Lib.hid (fun h => by
        rcases hv1_ with h9 | h9
        · exact hne0.out (h.trans h9)
        · rw [h9] at h
          have := hq0b.out
          simp at h
          omega)
      clear hV1_ hg1_ hv1_
      have y1 : W1.cell? ⟨wr.heap.size, 1, none⟩ = some (.string key) := by rw [block_cell hb1.out]; rfl
      go_wp2_with fail
      refine (rstr_any key kel _).mono ?_
      rintro e w2 ⟨A2, d2, rfl, hO2_, hB2_⟩
      have hO2 := Lib.hid hO2_
      have hV1b := Lib.hid (hV1.out.below hB2_)
      have hb1b := Lib.hid (block_below hB2_ hb1.out)
      have hB1b := Lib.hid (bnext hB1c.out hB2_)
      have hq1b : Hid (wr.heap.size < w2.heap.size) := Lib.hid (Nat.lt_of_lt_of_le hq1c.out hB2_.size)
      clear hO2_ hB2_
      obtain ⟨bs2, hbs2⟩ : ∃ bs, bs1 ++ strB key.data.toList = bs := ⟨_, rfl⟩
      have hBS2 := Lib.hid hbs2
      have hLEN2 : Hid (bs2.length ≤ 9 + k * 1000036 + 9 + (9 + key.size)) := Lib.hid (by
        have h1 := hLEN1.out
        have h2 : (strB key.data.toList).length ≤ 9 + key.size := by
          have h3 := natB_length key.data.toList.length; simp only [strB, List.length_append]; have h4 : key.data.toList.length = key.size := by simp
          omega
        rw [← hbs2, List.length_append]
        omega)
      have hTL2 : Hid (bs1.length + (strB key.data.toList).length ≤ 140737488355328) := Lib.hid (by
        have h1 := hLEN2.out
        rw [← List.length_append, hbs2]
        omega)
      clear hbs2
      go_wp2_with (at_builtin; refine list_of_wp rfl ?_; refine wp_append_B (.tmp 22) (.tmp 25) rfl w.heap.size v1 (.slice A2 (strB key.data.toList).length d2) bs1 (strB key.data.toList) _ hBS2.out rfl hV1b.out rfl (RB.of_own hO2.out) hTL2.out hB1b.out.size ?_)
      intro v2 W2 hV2_ hg2_ hv2_
      have hV2 := Lib.hid hV2_
      have hb2 := Lib.hid ((hg2_.block _ (lt_of_block hb1b.out) hne1.out).trans hb1b.out)
      have hB2c := Lib.hid (hB1b.out.grown hg2_ hB1b.out.size (own_ge hV1b.out))
      have hq2c : Hid (wr.heap.size < W2.heap.size) := Lib.hid (Nat.lt_of_lt_of_le hq1b.out hg2_.size)
      have hne2 : Hid (some wr.heap.size ≠ v2.ownBlock) := Lib.hid (fun h => by
        rcases hv2_ with h9 | h9
        · exact hne1.out (h.trans h9)
        · rw [h9] at h
          have := hq1b.out
          simp at h
          omega)
      clear hV2_ hg2_ hv2_
      have y2 : W2.cell? ⟨wr.heap.size, 2, none⟩ = some (.int .i64 n) := by rw [block_cell hb2.out]; rfl
      go_wp2_with fail
      refine (rnum_any n n0 n1 _).mono ?_
      rintro e w3 ⟨A3, d3, rfl, hO3_, hB3_⟩
      have hO3 := Lib.hid hO3_
      have hV2b := Lib.hid (hV2.out.below hB3_)
      have hb2b := Lib.hid (block_below hB3_ hb2.out)
      have hB2b := Lib.hid (bnext hB2c.out hB3_)
      have hq2b : Hid (wr.heap.size < w3.heap.size) := Lib.hid (Nat.lt_of_lt_of_le hq2c.out hB3_.size)
      clear hO3_ hB3_
      obtain ⟨bs3, hbs3⟩ : ∃ bs, bs2 ++ numB n = bs := ⟨_, rfl⟩
      have hBS3 := Lib.hid hbs3
      have hLEN3 : Hid (bs3.length ≤ 9 + k * 1000036 + 9 + (9 + key.size) + 9) := Lib.hid (by
        have h1 := hLEN2.out
        have h2 : (numB n).length ≤ 9 := by
          exact numB_length _
          done
        rw [← hbs3, List.length_append]
        omega)
      have hTL3 : Hid (bs2.length + (numB n).length ≤ 140737488355328) := Lib.hid (by
        have h1 := hLEN3.out
        rw [← List.length_append, hbs3]
        omega)
      clear hbs3
      go_wp2_with (at_builtin; refine list_of_wp rfl ?_; refine wp_append_B (.tmp 27) (.tmp 30) rfl w.heap.size v2 (.slice A3 (numB n).length d3) bs2 (numB n) _ hBS3.out rfl hV2b.out rfl (RB.of_own hO3.out) hTL3.out hB2b.out.size ?_)
      intro v3 W3 hV3_ hg3_ hv3_
      have hV3 := Lib.hid hV3_
      have hb3 := Lib.hid ((hg3_.block _ (lt_of_block hb2b.out) hne2.out).trans hb2b.out)
      have hB3c := Lib.hid (hB2b.out.grown hg3_ hB2b.out.size (own_ge hV2b.out))
      have hq3c : Hid (wr.heap.size < W3.heap.size) := Lib.hid (Nat.lt_of_lt_of_le hq2b.out hg3_.size)
      have hne3 : Hid (some wr.heap.size ≠ v3.ownBlock) := Lib.hid (fun h => by
        rcases hv3_ with h9 | h9
        · exact hne2.out (h.trans h9)
        · rw [h9] at h
          have := hq2b.out
          simp at h
          omega)
      clear hV3_ hg3_ hv3_
      have y3 : W3.cell? ⟨wr.heap.size, 3, none⟩ = some (.int .i64 lo) := by rw [block_cell hb3.out]; rfl
      go_wp2_with fail
      refine (rnum_any lo l0 l1 _).mono ?_
      rintro e w4 ⟨A4, d4, rfl, hO4_, hB4_⟩
      have hO4 := Lib.hid hO4_
      have hV3b := Lib.hid (hV3.out.below hB4_)
      have hb3b := Lib.hid (block_below hB4_ hb3.out)
      have hB3b := Lib.hid (bnext hB3c.out hB4_)
      have hq3b : Hid (wr.heap.size < w4.heap.size) := Lib.hid (Nat.lt_of_lt_of_le hq3c.out hB4_.size)
      clear hO4_ hB4_
      obtain ⟨bs4, hbs4⟩ : ∃ bs, bs3 ++ numB lo = bs := ⟨_, rfl⟩
      have hBS4 := Lib.hid hbs4
      have hLEN4 : Hid (bs4.length ≤ 9 + k * 1000036 + 9 + (9 + key.size) + 9 + 9) := Lib.hid (by
        have h1 := hLEN3.out
        have h2 : (numB lo).length ≤ 9 := by
          exact numB_length _
          done
        rw [← hbs4, List.length_append]
        omega)
      have hTL4 : Hid (bs3.length + (numB lo).length ≤ 140737488355328) := Lib.hid (by
        have h1 := hLEN4.out
        rw [← List.length_append, hbs4]
        omega)
      clear hbs4
      go_wp2_with (at_builtin; refine list_of_wp rfl ?_; refine wp_append_B (.tmp 32) (.tmp 35) rfl w.heap.size v3 (.slice A4 (numB lo).length d4) bs3 (numB lo) _ hBS4.out rfl hV3b.out rfl (RB.of_own hO4.out) hTL4.out hB3b.out.size ?_)
      intro v4 W4 hV4_ hg4_ hv4_
      have hV4 := Lib.hid hV4_
      have hb4 := Lib.hid ((hg4_.block _ (lt_of_block hb3b.out) hne3.out).trans hb3b.out)
      have hB4c := Lib.hid (hB3b.out.grown hg4_ hB3b.out.size (own_ge hV3b.out))
      have hq4c : Hid (wr.heap.size < W4.heap.size) := Lib.hid (Nat.lt_of_lt_of_le hq3b.out hg4_.size)
      have hne4 : Hid (some wr.heap.size ≠ v4.ownBlock) := Lib.hid (fun h => by
        rcases hv4_ with h9 | h9
        · exact hne3.out (h.trans h9)
        · rw [h9] at h
          have := hq3b.out
          simp at h
          omega)
      clear hV4_ hg4_ hv4_
      have hfin : Hid (natB l.length ++ ((l.take (k + 1)).map opB).flatten = bs4) := Lib.hid (by
        rw [flat_snoc' _ _ _ hlt, hX.out, ← List.append_assoc, hBS0.out, ← hBS4.out, ← hBS3.out, ← hBS2.out, ← hBS1.out]
        simp [opB])
      go_wp2_with fail
      go_roundw
      case rel => exact ⟨k + 1, by omega, by go_num, by rw [hfin.out]; exact hV4.out, hB4c.out⟩
      case measure => simp [intOf]; omega
    · go_wp2_with fail
      have hk2 : l.take k = l := List.take_of_length_le (by omega)
      have hO3 := hO2.out
      rw [hk2] at hO3
      go_ret
      exact RetB.mk rfl (v := u3) hO3 hB2.out
end Go.Proofs.YteeiacfddjhhkaaGreatDoor
