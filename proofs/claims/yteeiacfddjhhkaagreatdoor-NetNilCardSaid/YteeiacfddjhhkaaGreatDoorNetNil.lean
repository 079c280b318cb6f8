/- byroadlaw20.NetNil, walked: true, and old memory is as it was. -/
import Derived.Test.YteeiacfddjhhkaaGreatDoorAwake
namespace Go.Proofs.YteeiacfddjhhkaaGreatDoor
open Go.RowKit
set_option maxRecDepth 100000

set_option maxHeartbeats 2000000 in
theorem NetNil_walk (i k : Int) (w : World) (hG : GOk w) : Calls Tryz.prog 6 #[.int .i64 i, .int .i64 k] w fun e w' => e = .returned (.bool true) ∧ Below w.heap.size w w' := by
  have hGG := Lib.hid hG
  clear hG
  go_enter Tryz.func6, Tryz.ntmps6
  go_wp2_with fail
  refine (Tick_nil _).mono ?_
  rintro e w0 ⟨rfl, rfl⟩
  go_wp2_with fail
  refine (Deliver_nil i _ hGG.out).mono ?_
  rintro e w1 ⟨rfl, hB_⟩
  have hB1 := Lib.hid hB_
  clear hB_
  simp only [zeroV]
  have hBz := below_alloc (Below.refl _ w1) (.cells #[.int .i64 0, .int .i64 0, .int .i64 0, .int .i64 0, .int .i64 0, .int .i64 0, .int .i64 0, .int .i64 0, .int .i64 0, .slice none 0 0, .slice none 0 0] 37)
  have hB2 := Lib.hid (bnext hB1.out hBz)
  clear hBz
  go_wp2_with fail
  generalize w1.alloc (.cells #[.int .i64 0, .int .i64 0, .int .i64 0, .int .i64 0, .int .i64 0, .int .i64 0, .int .i64 0, .int .i64 0, .int .i64 0, .slice none 0 0, .slice none 0 0] 37) = w2 at *
  refine (kept_any 1 1 _).mono ?_
  rintro e w3 ⟨rfl, hB_⟩
  have hB3 := Lib.hid (bnext hB2.out hB_)
  clear hB_
  have hBz := below_alloc (Below.refl _ w3) (.cells #[.int .i64 13, .int .i64 1, .int .i64 0, .int .i64 1, .int .i64 0, .int .i64 0, .int .i64 0, .int .i64 0, .int .i64 0, .slice none 0 0, .slice none 0 0] 37)
  have hB4 := Lib.hid (bnext hB3.out hBz)
  clear hBz
  go_wp2_with fail
  generalize w3.alloc (.cells #[.int .i64 13, .int .i64 1, .int .i64 0, .int .i64 1, .int .i64 0, .int .i64 0, .int .i64 0, .int .i64 0, .int .i64 0, .slice none 0 0, .slice none 0 0] 37) = w4 at *
  refine (Send_nil _ _).mono ?_
  rintro e w4 ⟨rfl, rfl⟩
  go_wp2_with fail
  refine (Drop_nil i _ (hGG.out.below hB4.out)).mono ?_
  rintro e w5 ⟨rfl, hB_⟩
  have hB5 := Lib.hid (bnext hB4.out hB_)
  clear hB_
  go_wp2_with fail
  refine (Twice_nil i _ (hGG.out.below hB5.out)).mono ?_
  rintro e w6 ⟨rfl, hB_⟩
  have hB6 := Lib.hid (bnext hB5.out hB_)
  clear hB_
  go_wp2_with fail
  refine (Move_nil i k _ (hGG.out.below hB6.out)).mono ?_
  rintro e w7 ⟨rfl, hB_⟩
  have hB7 := Lib.hid (bnext hB6.out hB_)
  clear hB_
  go_wp2_with fail
  refine (Hold_nil i k _ (hGG.out.below hB7.out)).mono ?_
  rintro e w8 ⟨rfl, hB_⟩
  have hB8 := Lib.hid (bnext hB7.out hB_)
  clear hB_
  go_wp2_with fail
  refine (Spoil_nil i k _ (hGG.out.below hB8.out)).mono ?_
  rintro e w9 ⟨rfl, hB_⟩
  have hB9 := Lib.hid (bnext hB8.out hB_)
  clear hB_
  go_wp2_with fail
  refine (Part_nil i _ (hGG.out.below hB9.out)).mono ?_
  rintro e w10 ⟨rfl, hB_⟩
  have hB10 := Lib.hid (bnext hB9.out hB_)
  clear hB_
  go_wp2_with fail
  refine (Heal_nil i _ (hGG.out.below hB10.out)).mono ?_
  rintro e w11 ⟨rfl, hB_⟩
  have hB11 := Lib.hid (bnext hB10.out hB_)
  clear hB_
  go_wp2_with fail
  refine (Len_nil _).mono ?_
  rintro e wx ⟨rfl, hwx⟩
  subst hwx
  go_wp2_with fail
  refine (Packet_nil i _).mono ?_
  rintro e w12 ⟨rfl, hB_⟩
  have hB12 := Lib.hid (bnext hB11.out hB_)
  clear hB_
  go_wp2_with fail
  refine (Waits_nil i _).mono ?_
  rintro e w13 ⟨rfl, hB_⟩
  have hB13 := Lib.hid (bnext hB12.out hB_)
  clear hB_
  go_wp2_with fail
  refine (Parted_nil _).mono ?_
  rintro e wx ⟨rfl, hwx⟩
  subst hwx
  go_wp2_with fail
  refine (awake_any _ (hGG.out.below hB13.out)).mono ?_
  rintro e wz ⟨rfl, hB_⟩
  have hBz := Lib.hid (bnext hB13.out hB_)
  clear hB_
  go_wp2_with fail
  go_ret
  exact ⟨rfl, hBz.out⟩
end Go.Proofs.YteeiacfddjhhkaaGreatDoor
