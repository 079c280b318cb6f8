/- octet.In: Nat, Num, Str, Err, End; mess.small; where what they shall read stands there. -/
import Derived.Test.YteeiacfddjhhkaaGreatDoorRd
import Derived.Test.YteeiacfddjhhkaaGreatDoorAs
namespace Go.Proofs.YteeiacfddjhhkaaGreatDoor
open Go.RowKit
set_option maxRecDepth 100000

theorem Nat_rd (n : Nat) (rest : List UInt8) (p g : Nat) (w : World) (h : InAt w p g (natB n ++ rest)) (hn : n < 18446744073709551616) :
    Calls Tryz.prog 68 #[.pointer (some ⟨p, 0, none⟩)] w (RetIn w p g rest (.int .u64 n)) := by
  obtain ⟨ad, c, bs, k, hb, _⟩ := id h
  have x1 : w.cell? ⟨p, 1, none⟩ = some (.int .i64 k) := by rw [block_cell hb]; rfl
  have hI := Lib.hid h
  clear h hb
  go_enter Tryz.func68, Tryz.ntmps68
  go_wp2_with fail
  refine (bad_any p g _ _ hI.out).mono ?_
  rintro e w1 ⟨rfl, rfl⟩
  go_wp2_with fail
  refine (nat_rd n rest p g _ hI.out hn).mono ?_
  rintro e w2 ⟨rfl, hI2_, hK2_⟩
  have hI2 := Lib.hid hI2_
  have hK2 := Lib.hid hK2_
  clear hI2_ hK2_
  go_wp2_with fail
  go_ret
  exact ⟨rfl, hI2.out, hK2.out⟩
theorem small_rd (n : Nat) (rest : List UInt8) (p g : Nat) (w : World) (h : InAt w p g (natB n ++ rest)) (hn : n ≤ 1073741824) :
    Calls Tryz.prog 67 #[.pointer (some ⟨p, 0, none⟩)] w (RetIn w p g rest (.int .i64 n)) := by
  have hI := Lib.hid h
  clear h
  go_enter Tryz.func67, Tryz.ntmps67
  go_wp2_with fail
  refine (Nat_rd n rest p g _ hI.out (by omega)).mono ?_
  rintro e w2 ⟨rfl, hI2_, hK2_⟩
  have hI2 := Lib.hid hI2_
  have hK2 := Lib.hid hK2_
  clear hI2_ hK2_
  go_wp2_with fail
  go_ret
  exact ⟨rfl, hI2.out, hK2.out⟩
theorem i64_xor_m1 (a : Nat) (ha : a < 9223372036854775808) : bits .xor .i64 (a : Int) (-1) = -1 - (a : Int) := by
  show IntKind.i64.wrap ((BitVec.ofInt 64 (a : Int) ^^^ BitVec.ofInt 64 (-1)).toNat : Int) = _
  have h1 : BitVec.ofInt 64 (-1) = BitVec.allOnes 64 := by decide
  rw [h1, BitVec.xor_allOnes, BitVec.toNat_not, ofInt_u64 a (by omega)]
  simp [IntKind.wrap, IntKind.bits, IntKind.signed]
  omega
theorem i64_xor_0 (a : Nat) (ha : a < 9223372036854775808) : bits .xor .i64 (a : Int) 0 = (a : Int) := by
  show IntKind.i64.wrap ((BitVec.ofInt 64 (a : Int) ^^^ BitVec.ofInt 64 0).toNat : Int) = _
  have h1 : BitVec.ofInt 64 0 = 0#64 := by decide
  rw [h1, BitVec.xor_zero, ofInt_u64 a (by omega)]
  simp [IntKind.wrap, IntKind.bits, IntKind.signed]
  omega
theorem signed_any (n : Int) (hn : i64ok n) (w : World) :
    Calls Tryz.prog 94 #[.int .u64 (zig n)] w fun e w' => e = .returned (.int .i64 n) ∧ w' = w := by
  have hz := zig_even n
  have hlt : zig n < 18446744073709551616 := by obtain ⟨h1, h2⟩ := hn; unfold zig; split <;> omega
  generalize zig n = z at *
  have hand : bits .and .u64 (z : Int) 1 = ((z % 2 : Nat) : Int) := by
    rw [show (1 : Int) = ((1 : Nat) : Int) from rfl, u64_and_nat z 1 hlt (by omega), Nat.and_one_is_mod]
  have e : bits BinOp.xor IntKind.i64 ((z : Int) / 2) (wrap64 (-wrap64 (bits BinOp.and IntKind.u64 (z : Int) 1))) = n := by
    rw [hand]
    rcases hz with ⟨h1, h2, h3⟩ | ⟨h1, h2, h3⟩
    · rw [h1, show (wrap64 (-wrap64 ((0 : Nat) : Int))) = 0 from by decide +kernel, show (z : Int) / 2 = ((z / 2 : Nat) : Int) by omega, i64_xor_0 _ (by omega)]
      omega
    · rw [h1, show (wrap64 (-wrap64 ((1 : Nat) : Int))) = -1 from by decide +kernel, show (z : Int) / 2 = ((z / 2 : Nat) : Int) by omega, i64_xor_m1 _ (by omega)]
      omega
  clear hand
  go_enter Tryz.func94, Tryz.ntmps94
  go_wp2_with fail
  go_ret
  exact ⟨rfl, rfl⟩
theorem Num_rd (n : Int) (hn : i64ok n) (rest : List UInt8) (p g : Nat) (w : World) (h : InAt w p g (numB n ++ rest)) :
    Calls Tryz.prog 70 #[.pointer (some ⟨p, 0, none⟩)] w (RetIn w p g rest (.int .i64 n)) := by
  have hI := Lib.hid h
  have hlt : zig n < 18446744073709551616 := by obtain ⟨h1, h2⟩ := hn; unfold zig; split <;> omega
  clear h
  go_enter Tryz.func70, Tryz.ntmps70
  go_wp2_with fail
  refine (Nat_rd (zig n) rest p g _ hI.out hlt).mono ?_
  rintro e w2 ⟨rfl, hI2_, hK2_⟩
  have hI2 := Lib.hid hI2_
  have hK2 := Lib.hid hK2_
  clear hI2_ hK2_
  go_wp2_with fail
  refine (signed_any n hn _).mono ?_
  rintro e w3 ⟨rfl, rfl⟩
  go_wp2_with fail
  go_ret
  exact ⟨rfl, hI2.out, hK2.out⟩
theorem str_rd (s : List UInt8) (rest : List UInt8) (m : Nat) (p g : Nat) (w : World) (h : InAt w p g (strB s ++ rest)) (hm : m ≤ 1000000) (hs : s.length ≤ m) :
    Calls Tryz.prog 97 #[.pointer (some ⟨p, 0, none⟩), .int .i64 m] w (RetIn w p g rest (.tuple #[.string ⟨s.toArray⟩, .int .i64 0])) := by
  have hI := Lib.hid (show InAt w p g (natB s.length ++ (s ++ rest)) by rw [← List.append_assoc]; exact h)
  clear h
  go_enter Tryz.func97, Tryz.ntmps97
  go_wp2_with fail
  refine (nat_rd s.length (s ++ rest) p g _ hI.out (by omega)).mono ?_
  rintro e w2 ⟨rfl, hI2_, hK2_⟩
  have hI2 := Lib.hid hI2_
  have hK2 := Lib.hid hK2_
  clear hI2_ hK2_
  go_wp2_with fail
  refine (raw_any s.length s rest p g _ hI2.out rfl).mono ?_
  rintro e w3 ⟨ad3, c3, rfl, ⟨hg3_, hR3_, hI3_⟩, hK3_⟩
  have hR3 := Lib.hid hR3_
  have hEND : Hid (InAt w3 p g rest ∧ Kept (· = p) w w3) := Lib.hid ⟨hI3_, hK2.out.trans hK3_ fun _ _ h => h⟩
  clear hR3_ hI3_ hK3_ hK2 hI2 hI
  go_wp2_with (refine list_of_wp rfl ?_; refine wp_conv_BS (.tmp 29) _ s rfl rfl hR3.out ?_)
  go_wp2_with fail
  refine bodyPost_ret (v := .tuple #[.string ⟨s.toArray⟩, .int .i64 0]) ?_ rfl ⟨rfl, hEND.out⟩
  simp [results, Tryz.results97, go_sem]
theorem Str_rd (s : List UInt8) (rest : List UInt8) (m : Nat) (p g : Nat) (w : World) (h : InAt w p g (strB s ++ rest)) (hm : m ≤ 1000000) (hs : s.length ≤ m) :
    Calls Tryz.prog 72 #[.pointer (some ⟨p, 0, none⟩), .int .i64 m] w (RetIn w p g rest (.string ⟨s.toArray⟩)) := by
  obtain ⟨ad, c, bs, k, hb, _⟩ := id h
  have x1 : w.cell? ⟨p, 1, none⟩ = some (.int .i64 k) := by rw [block_cell hb]; rfl
  have hI := Lib.hid h
  clear h hb
  go_enter Tryz.func72, Tryz.ntmps72
  go_wp2_with fail
  refine (bad_any p g _ _ hI.out).mono ?_
  rintro e w1 ⟨rfl, rfl⟩
  go_wp2_with fail
  refine (str_rd s rest m p g _ hI.out hm hs).mono ?_
  rintro e w2 ⟨rfl, hI2_, hK2_⟩
  have hI2 := Lib.hid hI2_
  have hK2 := Lib.hid hK2_
  clear hI2_ hK2_
  go_wp2_with fail
  go_ret
  exact ⟨rfl, hI2.out, hK2.out⟩
theorem Err_rd (rest : List UInt8) (p g : Nat) (w : World) (h : InAt w p g rest) :
    Calls Tryz.prog 95 #[.pointer (some ⟨p, 0, none⟩)] w fun e w' => e = .returned (.int .i64 0) ∧ Below w.heap.size w w' := by
  obtain ⟨ad, c, bs, k, hb, _⟩ := id h
  have x2 : w.cell? ⟨p, 2, none⟩ = some .nilIface := by rw [block_cell hb]; rfl
  have hI := Lib.hid h
  clear h hb
  go_enter Tryz.func95, Tryz.ntmps95
  go_wp2_with fail
  refine (code_ok _).mono ?_
  rintro e w2 ⟨rfl, hB_⟩
  have hB := Lib.hid hB_
  clear hB_
  go_wp2_with fail
  go_ret
  exact ⟨rfl, hB.out⟩
theorem End_rd (p g : Nat) (w : World) (h : InAt w p g []) :
    Calls Tryz.prog 74 #[.pointer (some ⟨p, 0, none⟩)] w fun e w' => e = .returned (.int .i64 0) ∧ Below w.heap.size w w' := by
  obtain ⟨ad, c, bs, k, hb, _, _, _, hk, hl, hd⟩ := id h
  have hkl : k = bs.length := by have := congrArg List.length hd; simp at this; omega
  have x0 : w.cell? ⟨p, 0, none⟩ = some (.slice (some ad) bs.length c) := by rw [block_cell hb]; rfl
  have x1 : w.cell? ⟨p, 1, none⟩ = some (.int .i64 k) := by rw [block_cell hb]; rfl
  have x2 : w.cell? ⟨p, 2, none⟩ = some .nilIface := by rw [block_cell hb]; rfl
  have hI := Lib.hid h
  rw [hkl] at x1
  have hlt : ¬ ((bs.length : Int) < bs.length) := by omega
  clear h hb hd
  go_enter Tryz.func74, Tryz.ntmps74
  go_wp2_with fail
  go_quiet (fail)
  go_wp2_with fail
  refine (Err_rd [] p g _ (hI.out.later (below_drewN (Below.refl _ _) _))).mono ?_
  rintro e w2 ⟨rfl, hB_⟩
  have hB := Lib.hid (bnext (below_drewN (Below.refl _ w) nq) hB_)
  clear hB_
  go_wp2_with fail
  go_ret
  exact ⟨rfl, hB.out⟩
end Go.Proofs.YteeiacfddjhhkaaGreatDoor
