/- A net's methods where there is no such packet. -/
import Derived.Test.YteeiacfddjhhkaaGreatDoorNil
namespace Go.Proofs.YteeiacfddjhhkaaGreatDoor
open Go.RowKit
set_option maxRecDepth 100000

theorem Drop_none (p : Nat) (most : Int) (ks : List PK) (i : Int) (w : World) (hG : GOk w) (h : NetAt w p most ks) (hi : i < 0 ∨ (ks.length : Int) ≤ i) : Calls Tryz.prog 19 #[.pointer (some ⟨p, 0, none⟩), .int .i64 i] w fun e w' => e = .returned (.int .i64 3) ∧ Below w.heap.size w w' := by
  have hGG := Lib.hid hG
  have hN := Lib.hid h
  have hI := Lib.hid hi
  clear hG h hi
  go_enter Tryz.func19, Tryz.ntmps19
  go_wp2_with fail
  refine (at_none p most ks i _ hN.out hI.out).mono ?_
  rintro e w1 ⟨T, b, rfl, hE_, hB_⟩
  have hE := Lib.hid hE_
  have hB := Lib.hid hB_
  clear hE_ hB_
  go_wp2_with fail
  have hX := hB.out
  refine (code_err _ 3 _ hE.out (hGG.out.below hX)).mono ?_
  rintro e w2 ⟨rfl, hB_⟩
  have hB2 := Lib.hid (bnext hX hB_)
  clear hB_
  go_wp2_with fail
  go_ret
  exact ⟨rfl, hB2.out⟩
theorem Twice_none (p : Nat) (most : Int) (ks : List PK) (i : Int) (w : World) (hG : GOk w) (h : NetAt w p most ks) (hi : i < 0 ∨ (ks.length : Int) ≤ i) : Calls Tryz.prog 20 #[.pointer (some ⟨p, 0, none⟩), .int .i64 i] w fun e w' => e = .returned (.int .i64 3) ∧ Below w.heap.size w w' := by
  have hGG := Lib.hid hG
  have hN := Lib.hid h
  have hI := Lib.hid hi
  clear hG h hi
  go_enter Tryz.func20, Tryz.ntmps20
  go_wp2_with fail
  refine (at_none p most ks i _ hN.out hI.out).mono ?_
  rintro e w1 ⟨T, b, rfl, hE_, hB_⟩
  have hE := Lib.hid hE_
  have hB := Lib.hid hB_
  clear hE_ hB_
  go_wp2_with fail
  go_quiet (fail)
  go_wp2_with fail
  have hX := below_drewN hB.out nq
  refine (code_err _ 3 _ (hE.out.later (below_drewN (Below.refl _ _) _)) (hGG.out.below hX)).mono ?_
  rintro e w2 ⟨rfl, hB_⟩
  have hB2 := Lib.hid (bnext hX hB_)
  clear hB_
  go_wp2_with fail
  go_ret
  exact ⟨rfl, hB2.out⟩
theorem Move_none (p : Nat) (most : Int) (ks : List PK) (i k : Int) (w : World) (hG : GOk w) (h : NetAt w p most ks) (hi : i < 0 ∨ (ks.length : Int) ≤ i) : Calls Tryz.prog 21 #[.pointer (some ⟨p, 0, none⟩), .int .i64 i, .int .i64 k] w fun e w' => e = .returned (.int .i64 3) ∧ Below w.heap.size w w' := by
  have hGG := Lib.hid hG
  have hN := Lib.hid h
  have hI := Lib.hid hi
  clear hG h hi
  go_enter Tryz.func21, Tryz.ntmps21
  go_wp2_with fail
  refine (at_none p most ks i _ hN.out hI.out).mono ?_
  rintro e w1 ⟨T, b, rfl, hE_, hB_⟩
  have hE := Lib.hid hE_
  have hB := Lib.hid hB_
  clear hE_ hB_
  go_wp2_with fail
  have hX := hB.out
  refine (code_err _ 3 _ hE.out (hGG.out.below hX)).mono ?_
  rintro e w2 ⟨rfl, hB_⟩
  have hB2 := Lib.hid (bnext hX hB_)
  clear hB_
  go_wp2_with fail
  go_ret
  exact ⟨rfl, hB2.out⟩
theorem Hold_none (p : Nat) (most : Int) (ks : List PK) (i k : Int) (w : World) (hG : GOk w) (h : NetAt w p most ks) (hi : i < 0 ∨ (ks.length : Int) ≤ i) : Calls Tryz.prog 22 #[.pointer (some ⟨p, 0, none⟩), .int .i64 i, .int .i64 k] w fun e w' => e = .returned (.int .i64 3) ∧ Below w.heap.size w w' := by
  have hGG := Lib.hid hG
  have hN := Lib.hid h
  have hI := Lib.hid hi
  clear hG h hi
  go_enter Tryz.func22, Tryz.ntmps22
  go_wp2_with fail
  refine (at_none p most ks i _ hN.out hI.out).mono ?_
  rintro e w1 ⟨T, b, rfl, hE_, hB_⟩
  have hE := Lib.hid hE_
  have hB := Lib.hid hB_
  clear hE_ hB_
  go_wp2_with fail
  have hX := hB.out
  refine (code_err _ 3 _ hE.out (hGG.out.below hX)).mono ?_
  rintro e w2 ⟨rfl, hB_⟩
  have hB2 := Lib.hid (bnext hX hB_)
  clear hB_
  go_wp2_with fail
  go_ret
  exact ⟨rfl, hB2.out⟩
theorem Spoil_none (p : Nat) (most : Int) (ks : List PK) (i k : Int) (w : World) (hG : GOk w) (h : NetAt w p most ks) (hi : i < 0 ∨ (ks.length : Int) ≤ i) : Calls Tryz.prog 23 #[.pointer (some ⟨p, 0, none⟩), .int .i64 i, .int .i64 k] w fun e w' => e = .returned (.int .i64 3) ∧ Below w.heap.size w w' := by
  have hGG := Lib.hid hG
  have hN := Lib.hid h
  have hI := Lib.hid hi
  clear hG h hi
  go_enter Tryz.func23, Tryz.ntmps23
  go_wp2_with fail
  refine (at_none p most ks i _ hN.out hI.out).mono ?_
  rintro e w1 ⟨T, b, rfl, hE_, hB_⟩
  have hE := Lib.hid hE_
  have hB := Lib.hid hB_
  clear hE_ hB_
  go_wp2_with fail
  have hX := hB.out
  refine (code_err _ 3 _ hE.out (hGG.out.below hX)).mono ?_
  rintro e w2 ⟨rfl, hB_⟩
  have hB2 := Lib.hid (bnext hX hB_)
  clear hB_
  go_wp2_with fail
  go_ret
  exact ⟨rfl, hB2.out⟩
theorem Packet_none (p : Nat) (most : Int) (ks : List PK) (i : Int) (w : World) (h : NetAt w p most ks) (hi : i < 0 ∨ (ks.length : Int) ≤ i) : Calls Tryz.prog 18 #[.pointer (some ⟨p, 0, none⟩), .int .i64 i] w fun e w' => e = .returned (.slice none 0 0) ∧ Below w.heap.size w w' := by
  have hN := Lib.hid h
  have hI := Lib.hid hi
  clear h hi
  go_enter Tryz.func18, Tryz.ntmps18
  go_wp2_with fail
  refine (at_none p most ks i _ hN.out hI.out).mono ?_
  rintro e w1 ⟨T, b, rfl, hE_, hB_⟩
  have hB := Lib.hid hB_
  clear hE_ hB_
  go_wp2_with fail
  go_ret
  exact ⟨rfl, hB.out⟩
theorem Waits_none (p : Nat) (most : Int) (ks : List PK) (i : Int) (w : World) (h : NetAt w p most ks) (hi : i < 0 ∨ (ks.length : Int) ≤ i) : Calls Tryz.prog 30 #[.pointer (some ⟨p, 0, none⟩), .int .i64 i] w fun e w' => e = .returned (.int .i64 0) ∧ Below w.heap.size w w' := by
  have hN := Lib.hid h
  have hI := Lib.hid hi
  clear h hi
  go_enter Tryz.func30, Tryz.ntmps30
  go_wp2_with fail
  refine (at_none p most ks i _ hN.out hI.out).mono ?_
  rintro e w1 ⟨T, b, rfl, hE_, hB_⟩
  have hB := Lib.hid hB_
  clear hE_ hB_
  go_wp2_with fail
  go_ret
  exact ⟨rfl, hB.out⟩
end Go.Proofs.YteeiacfddjhhkaaGreatDoor
