/- A net that is not there. -/
import Derived.Test.YteeiacfddjhhkaaGreatDoorNet
namespace Go.Proofs.YteeiacfddjhhkaaGreatDoor
open Go.RowKit
set_option maxRecDepth 100000

theorem at_nil (i : Int) (w : World) : Calls Tryz.prog 35 #[.pointer none, .int .i64 i] w (RetE w 1) := by
  go_enter Tryz.func35, Tryz.ntmps35
  go_wp2_with fail
  refine (new_err 1 (by decide) _).mono ?_
  rintro e w1 ⟨T, b, rfl, hE_, hB_⟩
  have hE := Lib.hid hE_
  have hB := Lib.hid hB_
  clear hE_ hB_
  go_wp2_with fail
  go_ret
  exact RetE.mk rfl hE.out hB.out
theorem site_nil (i : Int) (w : World) : Calls Tryz.prog 54 #[.pointer none, .int .i64 i] w (RetE w 1) := by
  go_enter Tryz.func54, Tryz.ntmps54
  go_wp2_with fail
  refine (new_err 1 (by decide) _).mono ?_
  rintro e w1 ⟨T, b, rfl, hE_, hB_⟩
  have hE := Lib.hid hE_
  have hB := Lib.hid hB_
  clear hE_ hB_
  go_wp2_with fail
  go_ret
  exact RetE.mk rfl hE.out hB.out
theorem Drop_nil (i : Int) (w : World) (hG : GOk w) : Calls Tryz.prog 19 #[.pointer none, .int .i64 i] w fun e w' => e = .returned (.int .i64 1) ∧ Below w.heap.size w w' := by
  have hGG := Lib.hid hG
  clear hG
  go_enter Tryz.func19, Tryz.ntmps19
  go_wp2_with fail
  refine (at_nil i _).mono ?_
  rintro e w1 ⟨T, b, rfl, hE_, hB_⟩
  have hE := Lib.hid hE_
  have hB := Lib.hid hB_
  clear hE_ hB_
  go_wp2_with fail
  have hX := hB.out
  refine (code_err _ 1 _ hE.out (hGG.out.below hX)).mono ?_
  rintro e w2 ⟨rfl, hB_⟩
  have hB2 := Lib.hid (bnext hX hB_)
  clear hB_
  go_wp2_with fail
  go_ret
  exact ⟨rfl, hB2.out⟩
theorem Twice_nil (i : Int) (w : World) (hG : GOk w) : Calls Tryz.prog 20 #[.pointer none, .int .i64 i] w fun e w' => e = .returned (.int .i64 1) ∧ Below w.heap.size w w' := by
  have hGG := Lib.hid hG
  clear hG
  go_enter Tryz.func20, Tryz.ntmps20
  go_wp2_with fail
  refine (at_nil i _).mono ?_
  rintro e w1 ⟨T, b, rfl, hE_, hB_⟩
  have hE := Lib.hid hE_
  have hB := Lib.hid hB_
  clear hE_ hB_
  go_wp2_with fail
  go_quiet (fail)
  go_wp2_with fail
  have hX := below_drewN hB.out nq
  refine (code_err _ 1 _ (hE.out.later (below_drewN (Below.refl _ _) _)) (hGG.out.below hX)).mono ?_
  rintro e w2 ⟨rfl, hB_⟩
  have hB2 := Lib.hid (bnext hX hB_)
  clear hB_
  go_wp2_with fail
  go_ret
  exact ⟨rfl, hB2.out⟩
theorem Move_nil (i k : Int) (w : World) (hG : GOk w) : Calls Tryz.prog 21 #[.pointer none, .int .i64 i, .int .i64 k] w fun e w' => e = .returned (.int .i64 1) ∧ Below w.heap.size w w' := by
  have hGG := Lib.hid hG
  clear hG
  go_enter Tryz.func21, Tryz.ntmps21
  go_wp2_with fail
  refine (at_nil i _).mono ?_
  rintro e w1 ⟨T, b, rfl, hE_, hB_⟩
  have hE := Lib.hid hE_
  have hB := Lib.hid hB_
  clear hE_ hB_
  go_wp2_with fail
  have hX := hB.out
  refine (code_err _ 1 _ hE.out (hGG.out.below hX)).mono ?_
  rintro e w2 ⟨rfl, hB_⟩
  have hB2 := Lib.hid (bnext hX hB_)
  clear hB_
  go_wp2_with fail
  go_ret
  exact ⟨rfl, hB2.out⟩
theorem Hold_nil (i k : Int) (w : World) (hG : GOk w) : Calls Tryz.prog 22 #[.pointer none, .int .i64 i, .int .i64 k] w fun e w' => e = .returned (.int .i64 1) ∧ Below w.heap.size w w' := by
  have hGG := Lib.hid hG
  clear hG
  go_enter Tryz.func22, Tryz.ntmps22
  go_wp2_with fail
  refine (at_nil i _).mono ?_
  rintro e w1 ⟨T, b, rfl, hE_, hB_⟩
  have hE := Lib.hid hE_
  have hB := Lib.hid hB_
  clear hE_ hB_
  go_wp2_with fail
  have hX := hB.out
  refine (code_err _ 1 _ hE.out (hGG.out.below hX)).mono ?_
  rintro e w2 ⟨rfl, hB_⟩
  have hB2 := Lib.hid (bnext hX hB_)
  clear hB_
  go_wp2_with fail
  go_ret
  exact ⟨rfl, hB2.out⟩
theorem Spoil_nil (i k : Int) (w : World) (hG : GOk w) : Calls Tryz.prog 23 #[.pointer none, .int .i64 i, .int .i64 k] w fun e w' => e = .returned (.int .i64 1) ∧ Below w.heap.size w w' := by
  have hGG := Lib.hid hG
  clear hG
  go_enter Tryz.func23, Tryz.ntmps23
  go_wp2_with fail
  refine (at_nil i _).mono ?_
  rintro e w1 ⟨T, b, rfl, hE_, hB_⟩
  have hE := Lib.hid hE_
  have hB := Lib.hid hB_
  clear hE_ hB_
  go_wp2_with fail
  have hX := hB.out
  refine (code_err _ 1 _ hE.out (hGG.out.below hX)).mono ?_
  rintro e w2 ⟨rfl, hB_⟩
  have hB2 := Lib.hid (bnext hX hB_)
  clear hB_
  go_wp2_with fail
  go_ret
  exact ⟨rfl, hB2.out⟩
theorem Part_nil (i : Int) (w : World) (hG : GOk w) : Calls Tryz.prog 28 #[.pointer none, .int .i64 i] w fun e w' => e = .returned (.int .i64 1) ∧ Below w.heap.size w w' := by
  have hGG := Lib.hid hG
  clear hG
  go_enter Tryz.func28, Tryz.ntmps28
  go_wp2_with fail
  refine (site_nil i _).mono ?_
  rintro e w1 ⟨T, b, rfl, hE_, hB_⟩
  have hE := Lib.hid hE_
  have hB := Lib.hid hB_
  clear hE_ hB_
  go_wp2_with fail
  have hX := hB.out
  refine (code_err _ 1 _ hE.out (hGG.out.below hX)).mono ?_
  rintro e w2 ⟨rfl, hB_⟩
  have hB2 := Lib.hid (bnext hX hB_)
  clear hB_
  go_wp2_with fail
  go_ret
  exact ⟨rfl, hB2.out⟩
theorem Heal_nil (i : Int) (w : World) (hG : GOk w) : Calls Tryz.prog 29 #[.pointer none, .int .i64 i] w fun e w' => e = .returned (.int .i64 1) ∧ Below w.heap.size w w' := by
  have hGG := Lib.hid hG
  clear hG
  go_enter Tryz.func29, Tryz.ntmps29
  go_wp2_with fail
  refine (site_nil i _).mono ?_
  rintro e w1 ⟨T, b, rfl, hE_, hB_⟩
  have hE := Lib.hid hE_
  have hB := Lib.hid hB_
  clear hE_ hB_
  go_wp2_with fail
  have hX := hB.out
  refine (code_err _ 1 _ hE.out (hGG.out.below hX)).mono ?_
  rintro e w2 ⟨rfl, hB_⟩
  have hB2 := Lib.hid (bnext hX hB_)
  clear hB_
  go_wp2_with fail
  go_ret
  exact ⟨rfl, hB2.out⟩
theorem Len_nil (w : World) : Calls Tryz.prog 14 #[.pointer none] w fun e w' => e = .returned (.int .i64 0) ∧ w' = w := by
  go_enter Tryz.func14, Tryz.ntmps14
  go_wp2_with fail
  go_ret
  exact ⟨rfl, rfl⟩
theorem Parted_nil (w : World) : Calls Tryz.prog 31 #[.pointer none] w fun e w' => e = .returned (.slice none 0 0) ∧ w' = w := by
  go_enter Tryz.func31, Tryz.ntmps31
  go_wp2_with fail
  go_ret
  exact ⟨rfl, rfl⟩
theorem Packet_nil (i : Int) (w : World) : Calls Tryz.prog 18 #[.pointer none, .int .i64 i] w fun e w' => e = .returned (.slice none 0 0) ∧ Below w.heap.size w w' := by
  go_enter Tryz.func18, Tryz.ntmps18
  go_wp2_with fail
  refine (at_nil i _).mono ?_
  rintro e w1 ⟨T, b, rfl, hE_, hB_⟩
  have hB := Lib.hid hB_
  clear hE_ hB_
  go_wp2_with fail
  go_ret
  exact ⟨rfl, hB.out⟩
theorem Waits_nil (i : Int) (w : World) : Calls Tryz.prog 30 #[.pointer none, .int .i64 i] w fun e w' => e = .returned (.int .i64 0) ∧ Below w.heap.size w w' := by
  go_enter Tryz.func30, Tryz.ntmps30
  go_wp2_with fail
  refine (at_nil i _).mono ?_
  rintro e w1 ⟨T, b, rfl, hE_, hB_⟩
  have hB := Lib.hid hB_
  clear hE_ hB_
  go_wp2_with fail
  go_ret
  exact ⟨rfl, hB.out⟩
theorem Send_nil (v : Value) (w : World) : Calls Tryz.prog 9 #[.pointer none, v] w fun e w' => e = .returned (.int .i64 0) ∧ w' = w := by
  go_enter Tryz.func9, Tryz.ntmps9
  go_wp2_with fail
  go_ret
  exact ⟨rfl, rfl⟩
theorem Tick_nil (w : World) : Calls Tryz.prog 24 #[.pointer none] w fun e w' => e = .returned (.tuple #[]) ∧ w' = w := by
  go_enter Tryz.func24, Tryz.ntmps24
  go_wp2_with fail
  refine bodyPost_ret (v := .tuple #[]) ?_ rfl ⟨rfl, rfl⟩
  simp [results, Tryz.results24, go_sem]
end Go.Proofs.YteeiacfddjhhkaaGreatDoor
