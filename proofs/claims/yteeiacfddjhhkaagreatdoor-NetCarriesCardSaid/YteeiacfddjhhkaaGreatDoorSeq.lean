/- octet.Num, Str, Seq return the bytes numB, strB, and their parts one behind the other. -/
import Derived.Test.YteeiacfddjhhkaaGreatDoorNat
import Derived.Test.YteeiacfddjhhkaaGreatDoorCrc
import Derived.Lib.Zigzag
namespace Go.Proofs.YteeiacfddjhhkaaGreatDoor
open Go.RowKit
set_option maxRecDepth 100000

theorem zig_pos {n : Int} (h0 : 0 ≤ n) (h1 : n ≤ 9223372036854775807) : bits .xor .u64 (n * 2) (n / 9223372036854775808) = ((zig n : Nat) : Int) := by
  have e : n / 9223372036854775808 = ((0 : Nat) : Int) := by omega
  have e1 : n * 2 = (((2 * n).toNat : Nat) : Int) := by omega
  rw [e, e1, u64_xor_nat _ _ (by omega) (by omega), Nat.xor_zero, zig, if_pos h0]
theorem zig_neg {n : Int} (h0 : -9223372036854775808 ≤ n) (h1 : n < 0) : bits .xor .u64 (IntKind.u64.wrap (IntKind.u64.wrap n * 2)) (IntKind.u64.wrap (n / 9223372036854775808)) = ((zig n : Nat) : Int) := by
  have e1 : IntKind.u64.wrap (IntKind.u64.wrap n * 2) = (((2 * n + 18446744073709551616).toNat : Nat) : Int) := by
    rw [IntKind.wrap_u64, IntKind.wrap_u64]
    omega
  have e2 : IntKind.u64.wrap (n / 9223372036854775808) = ((2 ^ 64 - 1 : Nat) : Int) := by
    have : n / 9223372036854775808 = -1 := by omega
    rw [this]
    decide
  rw [e1, e2, u64_xor_nat _ _ (by omega) (by decide), Nat.xor_comm, Lib.xor_ones64 _ (by omega), zig, if_neg (by omega)]
  omega
theorem zig_lt {n : Int} (h0 : -9223372036854775808 ≤ n) (h1 : n ≤ 9223372036854775807) : zig n < 18446744073709551616 := by
  unfold zig
  split <;> omega
theorem num_any (n : Int) (h0 : -9223372036854775808 ≤ n) (h1 : n ≤ 9223372036854775807) (w : World) :
    Calls Tryz.prog 59 #[.int .i64 n] w (RetB w (numB n)) := by
  have hz := Lib.hid (zig_lt h0 h1)
  by_cases hn : 0 ≤ n
  · have he := Lib.hid (zig_pos hn h1)
    go_enter Tryz.func59, Tryz.ntmps59
    go_wp2_with fail
    rw [he.out]
    refine (nat_any _ hz.out _).mono ?_
    rintro e w' ⟨Av, cv, rfl, hO, hB⟩
    go_wp2_with fail
    go_ret
    exact ⟨Av, cv, rfl, hO, hB⟩
  · have he := Lib.hid (zig_neg h0 (by omega))
    go_enter Tryz.func59, Tryz.ntmps59
    go_wp2_with fail
    rw [he.out]
    refine (nat_any _ hz.out _).mono ?_
    rintro e w' ⟨Av, cv, rfl, hO, hB⟩
    go_wp2_with fail
    go_ret
    exact ⟨Av, cv, rfl, hO, hB⟩

/-- append(b, s...), s a string. -/
theorem str_any (s : ByteArray) (hs : s.size ≤ 140737488355000) (w : World) :
    Calls Tryz.prog 61 #[.string s] w (RetB w (strB s.data.toList)) := by
  go_enter Tryz.func61, Tryz.ntmps61
  go_wp2_with fail
  refine (nat_any _ (by omega) _).mono ?_
  rintro e w' ⟨Av, cv, rfl, hO, hB⟩
  have hO' := Lib.hid hO
  have hB' := Lib.hid hB
  clear hO hB
  go_wp2_with (at_builtin; refine list_of_wp rfl (wp_append_S _ _ rfl w.heap.size (.slice Av (natB s.size).length cv) (natB s.size) s rfl hO'.out rfl ?c1 ?c2 ?_))
  case c1 => have := natB_length s.size; omega
  case c2 => exact hB'.out.size
  intro v' w1 h1 h2
  have h1' := Lib.hid h1
  have h2' := Lib.hid (hB'.out.grown h2 hB'.out.size (own_ge hO'.out))
  clear h1 h2
  go_wp2_with fail
  go_ret
  exact RetB.mk rfl (v := v') h1'.out h2'.out

theorem seq_any (v : Value) (parts : List (List UInt8)) (bs : List UInt8) (w : World) (h : RP w v parts) (hbs : parts.flatten = bs) (hm : bs.length ≤ 140737488355328) :
    Calls Tryz.prog 58 #[v] w (RetB w bs) := by
  subst hbs
  obtain ⟨A, c, vs, rfl, hmx, hl, hr, hp⟩ := id h
  clear hr hp hl vs
  have hR := Lib.hid h
  clear h
  unfold maxLen at hmx
  go_enter Tryz.func58, Tryz.ntmps58
  go_wp2_with fail
  go_loopw [3, 5, 8] (fun s _ i wr => ∃ k : Nat, k ≤ parts.length ∧ i = .int .i64 k ∧ OB wr w.heap.size s (parts.take k).flatten ∧ Below w.heap.size w wr) (fun _ _ i _ => parts.length - (intOf i).toNat)
  case atStart => exact ⟨0, by omega, rfl, OB.nil _ _, Below.refl _ _⟩
  case round =>
    obtain ⟨k, hk, rfl, hO, hB⟩ := hrel
    have hO' := Lib.hid hO
    have hB' := Lib.hid hB
    have hM := Lib.hid hm
    clear hO hB hm
    by_cases hlt : k < parts.length
    · obtain ⟨ad, B, d, rfl, hcell, hb, hm2, hrb⟩ := hR.out.at_ hlt
      have hcell2 := cell_below hB'.out hcell
      have hrb' := Lib.hid (hrb.below hB'.out)
      have hle : Hid ((parts.take k).flatten.length + parts[k].length ≤ parts.flatten.length) := Lib.hid (by
        have e : parts.flatten = (parts.take k).flatten ++ parts[k] ++ (parts.drop (k + 1)).flatten := by
          conv => lhs; rw [← List.take_append_drop k parts, List.flatten_append, List.drop_eq_getElem_cons hlt, List.flatten_cons]
          rw [List.append_assoc]
        rw [e]; simp)
      clear hb hcell hrb
      go_wp2_with (at_builtin; refine list_of_wp rfl (wp_append_B _ _ rfl w.heap.size u3 (.slice B parts[k].length d) (parts.take k).flatten parts[k] _ rfl rfl hO'.out rfl hrb'.out ?c1 ?c2 ?_))
      case c1 => have h1 := hle.out; have h2 := hM.out; omega
      case c2 => exact hB'.out.size
      intro v' w1 h1 h2 _
      have h1' := Lib.hid h1
      have h2' := Lib.hid (hB'.out.grown h2 hB'.out.size (own_ge hO'.out))
      clear h1 h2
      go_wp2_with fail
      go_roundw
      case rel => exact ⟨k + 1, by omega, by go_num, by rw [flat_snoc _ _ hlt]; exact h1'.out, h2'.out⟩
      case measure => simp [intOf]; omega
    · go_wp2_with fail
      have hk2 : parts.take k = parts := List.take_of_length_le (by omega)
      have hO2 := hO'.out
      rw [hk2] at hO2
      go_ret
      exact RetB.mk rfl (v := u3) hO2 hB'.out
end Go.Proofs.YteeiacfddjhhkaaGreatDoor
