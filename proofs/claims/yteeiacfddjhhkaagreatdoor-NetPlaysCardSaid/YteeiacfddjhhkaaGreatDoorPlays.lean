/- byroadlaw20.NetPlays, walked: true, and old memory is as it was. -/
import Derived.Test.YteeiacfddjhhkaaGreatDoorPStep
import Derived.Test.YteeiacfddjhhkaaGreatDoorPSame
import Derived.Test.YteeiacfddjhhkaaGreatDoorPSteps
import Derived.Test.YteeiacfddjhhkaaGreatDoorOpen2
namespace Go.Proofs.YteeiacfddjhhkaaGreatDoor
open Go.RowKit
set_option maxRecDepth 100000
theorem ref_new (w : World) (most : Int) : RefAt noCut (w.alloc (.cells #[.int .i64 most, .slice none 0 0, .bool false, .bool false, .bool false, .bool false] 60)) w.heap.size most [] :=
  ⟨none, 0, [], heap_alloc_new w (.cells #[.int .i64 most, .slice none 0 0, .bool false, .bool false, .bool false, .bool false] 60), own_nil _ _ _ _, rfl, fun i v k hv => by simp at hv⟩
set_option maxHeartbeats 4000000 in
theorem NetPlays_walk (most : Int) (l : List OpV) (L : Option Addr) (cl : Nat) (W : World) (hG : GOk W) (hr : RowAt W L (opvsC l)) (hl : l.length ≤ maxLen) (hm : ∀ o ∈ l, InM W o.x) :
    Calls Tryz.prog 5 #[.int .i64 most, .slice L l.length cl] W fun e w' => e = .returned (.bool true) ∧ Below W.heap.size W w' := by
  have hH := Lib.hid (And.intro hG (And.intro hr hm))
  unfold maxLen at hl
  clear hG hr hm
  by_cases hmost : most < 1 ∨ 1024 < most
  · have hne := Lib.hid (fun w => new_bad most w hmost)
    by_cases h1 : most < 1
    · have d1 : decide (most < 1) = true := by simpa using h1
      clear hmost
      go_enter Tryz.func5, Tryz.ntmps5
      go_wp2_with fail
      refine (hne.out _).mono ?_
      rintro e w0 ⟨rfl, hB_⟩
      have hB := Lib.hid hB_
      clear hB_
      go_wp2_with fail
      refine (awake_any _ (hH.out.1.below hB.out)).mono ?_
      rintro e wy ⟨rfl, hBy_⟩
      have hBy := Lib.hid (bnext hB.out hBy_)
      clear hBy_
      go_wp2_with fail
      go_ret
      exact ⟨rfl, hBy.out⟩
    · have d1 : decide (most < 1) = false := by simpa using h1
      have d2 : decide (1024 < most) = true := by simp; omega
      clear hmost
      go_enter Tryz.func5, Tryz.ntmps5
      go_wp2_with fail
      refine (hne.out _).mono ?_
      rintro e w0 ⟨rfl, hB_⟩
      have hB := Lib.hid hB_
      clear hB_
      go_wp2_with fail
      refine (awake_any _ (hH.out.1.below hB.out)).mono ?_
      rintro e wy ⟨rfl, hBy_⟩
      have hBy := Lib.hid (bnext hB.out hBy_)
      clear hBy_
      go_wp2_with fail
      go_ret
      exact ⟨rfl, hBy.out⟩
  · have d1 : decide (most < 1) = false := by simp; omega
    have d2 : decide (1024 < most) = false := by simp; omega
    have hmo : 1 ≤ most ∧ most ≤ 1024 := by omega
    clear hmost
    go_enter Tryz.func5, Tryz.ntmps5
    go_wp2_with fail
    refine (new_any most _ hmo).mono ?_
    rintro e w0 ⟨p, rfl, hN_, hp_, hB_⟩
    have hBa := below_alloc (Below.refl _ w0) (.cells #[.int .i64 most, .slice none 0 0, .bool false, .bool false, .bool false, .bool false] 60)
    have hI0 : Hid (St W p w0.heap.size most noCut [] noCut [] (w0.alloc (.cells #[.int .i64 most, .slice none 0 0, .bool false, .bool false, .bool false, .bool false] 60))) := Lib.hid ⟨hN_.later hBa, ref_new w0 most, bnext hB_ hBa⟩
    have hp := Lib.hid hp_
    have hq := Lib.hid hB_.size
    have hg0 : Hid (Good most []) := Lib.hid ⟨by simp; omega, hmo.2, fun k hk => by simp at hk⟩
    clear hN_ hB_ hp_ hBa hmo
    go_wp2_with fail
    generalize w0.alloc (.cells #[.int .i64 most, .slice none 0 0, .bool false, .bool false, .bool false, .bool false] 60) = w1 at *
    generalize w0.heap.size = q at *
    refine (same_any p q most [] w1 hI0.out.net hI0.out.ref (by simp)).mono ?_
    rintro e w2 ⟨rfl, hB_⟩
    have hI2 := Lib.hid (hI0.out.later hB_)
    clear hB_
    go_wp2_with fail
    go_loopw [8, 43] (fun ok j wr => ∃ (k : Nat) (cz : Cuts) (ks : List PK), k ≤ l.length ∧ k ≤ 60 ∧ j = .int .i64 k ∧ ok = .bool true ∧ St W p q most cz ks cz ks wr ∧ Good most ks) (fun _ j _ => l.length - (intOf j).toNat)
    case atStart => exact ⟨0, noCut, [], by omega, by omega, rfl, rfl, hI2.out, hg0.out⟩
    case round =>
      obtain ⟨k, cz, ks, hk, hk60, rfl, rfl, hI_, hg_⟩ := hrel
      have hI := Lib.hid hI_
      have hg := Lib.hid hg_
      clear hI_ hg_
      by_cases hlt : k < l.length
      · obtain ⟨o, ho⟩ : ∃ o, l[k]? = some o := ⟨_, List.getElem?_eq_getElem hlt⟩
        obtain ⟨ad, rfl, c0, c1, c2, c3, c4, c5, c6, c7, c8, c9, c10, c11, c12, c13, c14⟩ := opvs_at (hH.out.2.1.below hI.out.below) ho
        have hXM := Lib.hid (hH.out.2.2 o (List.mem_of_getElem? ho))
        obtain ⟨kind, near, x, i, kk⟩ := o
        simp only at hXM c0 c1 c2 c3 c4 c5 c6 c7 c8 c9 c10 c11 c12 c13 c14
        have hB1 := Lib.hid (below_alloc (Below.refl _ wr) (.cells #[.int .i64 kind, .bool near, .int .i64 x.m.kind, .int .i64 x.m.from_, .int .i64 x.m.to_, .int .i64 x.m.g, .int .i64 x.m.node, .int .i64 x.m.try_, .int .i64 x.m.low, .int .i64 x.m.code, .int .i64 x.m.ticket, .slice x.A x.m.told.length x.c, .slice x.B x.m.ops.length x.d, .int .i64 i, .int .i64 kk] 48))
        have hHb1 := Lib.hid (heap_alloc_new wr (.cells #[.int .i64 kind, .bool near, .int .i64 x.m.kind, .int .i64 x.m.from_, .int .i64 x.m.to_, .int .i64 x.m.g, .int .i64 x.m.node, .int .i64 x.m.try_, .int .i64 x.m.low, .int .i64 x.m.code, .int .i64 x.m.ticket, .slice x.A x.m.told.length x.c, .slice x.B x.m.ops.length x.d, .int .i64 i, .int .i64 kk] 48))
        have hI1 := Lib.hid (hI.out.later hB1.out)
        have t0 : (wr.alloc (.cells #[.int .i64 kind, .bool near, .int .i64 x.m.kind, .int .i64 x.m.from_, .int .i64 x.m.to_, .int .i64 x.m.g, .int .i64 x.m.node, .int .i64 x.m.try_, .int .i64 x.m.low, .int .i64 x.m.code, .int .i64 x.m.ticket, .slice x.A x.m.told.length x.c, .slice x.B x.m.ops.length x.d, .int .i64 i, .int .i64 kk] 48)).cell? ⟨wr.heap.size, 0, none⟩ = some (.int .i64 kind) := by rw [block_cell hHb1.out]; rfl
        have t1 : (wr.alloc (.cells #[.int .i64 kind, .bool near, .int .i64 x.m.kind, .int .i64 x.m.from_, .int .i64 x.m.to_, .int .i64 x.m.g, .int .i64 x.m.node, .int .i64 x.m.try_, .int .i64 x.m.low, .int .i64 x.m.code, .int .i64 x.m.ticket, .slice x.A x.m.told.length x.c, .slice x.B x.m.ops.length x.d, .int .i64 i, .int .i64 kk] 48)).cell? ⟨wr.heap.size, 1, none⟩ = some (.bool near) := by rw [block_cell hHb1.out]; rfl
        have t2 : (wr.alloc (.cells #[.int .i64 kind, .bool near, .int .i64 x.m.kind, .int .i64 x.m.from_, .int .i64 x.m.to_, .int .i64 x.m.g, .int .i64 x.m.node, .int .i64 x.m.try_, .int .i64 x.m.low, .int .i64 x.m.code, .int .i64 x.m.ticket, .slice x.A x.m.told.length x.c, .slice x.B x.m.ops.length x.d, .int .i64 i, .int .i64 kk] 48)).cell? ⟨wr.heap.size, 2, none⟩ = some (.int .i64 x.m.kind) := by rw [block_cell hHb1.out]; rfl
        have t3 : (wr.alloc (.cells #[.int .i64 kind, .bool near, .int .i64 x.m.kind, .int .i64 x.m.from_, .int .i64 x.m.to_, .int .i64 x.m.g, .int .i64 x.m.node, .int .i64 x.m.try_, .int .i64 x.m.low, .int .i64 x.m.code, .int .i64 x.m.ticket, .slice x.A x.m.told.length x.c, .slice x.B x.m.ops.length x.d, .int .i64 i, .int .i64 kk] 48)).cell? ⟨wr.heap.size, 3, none⟩ = some (.int .i64 x.m.from_) := by rw [block_cell hHb1.out]; rfl
        have t4 : (wr.alloc (.cells #[.int .i64 kind, .bool near, .int .i64 x.m.kind, .int .i64 x.m.from_, .int .i64 x.m.to_, .int .i64 x.m.g, .int .i64 x.m.node, .int .i64 x.m.try_, .int .i64 x.m.low, .int .i64 x.m.code, .int .i64 x.m.ticket, .slice x.A x.m.told.length x.c, .slice x.B x.m.ops.length x.d, .int .i64 i, .int .i64 kk] 48)).cell? ⟨wr.heap.size, 4, none⟩ = some (.int .i64 x.m.to_) := by rw [block_cell hHb1.out]; rfl
        have t5 : (wr.alloc (.cells #[.int .i64 kind, .bool near, .int .i64 x.m.kind, .int .i64 x.m.from_, .int .i64 x.m.to_, .int .i64 x.m.g, .int .i64 x.m.node, .int .i64 x.m.try_, .int .i64 x.m.low, .int .i64 x.m.code, .int .i64 x.m.ticket, .slice x.A x.m.told.length x.c, .slice x.B x.m.ops.length x.d, .int .i64 i, .int .i64 kk] 48)).cell? ⟨wr.heap.size, 5, none⟩ = some (.int .i64 x.m.g) := by rw [block_cell hHb1.out]; rfl
        have t6 : (wr.alloc (.cells #[.int .i64 kind, .bool near, .int .i64 x.m.kind, .int .i64 x.m.from_, .int .i64 x.m.to_, .int .i64 x.m.g, .int .i64 x.m.node, .int .i64 x.m.try_, .int .i64 x.m.low, .int .i64 x.m.code, .int .i64 x.m.ticket, .slice x.A x.m.told.length x.c, .slice x.B x.m.ops.length x.d, .int .i64 i, .int .i64 kk] 48)).cell? ⟨wr.heap.size, 6, none⟩ = some (.int .i64 x.m.node) := by rw [block_cell hHb1.out]; rfl
        have t7 : (wr.alloc (.cells #[.int .i64 kind, .bool near, .int .i64 x.m.kind, .int .i64 x.m.from_, .int .i64 x.m.to_, .int .i64 x.m.g, .int .i64 x.m.node, .int .i64 x.m.try_, .int .i64 x.m.low, .int .i64 x.m.code, .int .i64 x.m.ticket, .slice x.A x.m.told.length x.c, .slice x.B x.m.ops.length x.d, .int .i64 i, .int .i64 kk] 48)).cell? ⟨wr.heap.size, 7, none⟩ = some (.int .i64 x.m.try_) := by rw [block_cell hHb1.out]; rfl
        have t8 : (wr.alloc (.cells #[.int .i64 kind, .bool near, .int .i64 x.m.kind, .int .i64 x.m.from_, .int .i64 x.m.to_, .int .i64 x.m.g, .int .i64 x.m.node, .int .i64 x.m.try_, .int .i64 x.m.low, .int .i64 x.m.code, .int .i64 x.m.ticket, .slice x.A x.m.told.length x.c, .slice x.B x.m.ops.length x.d, .int .i64 i, .int .i64 kk] 48)).cell? ⟨wr.heap.size, 8, none⟩ = some (.int .i64 x.m.low) := by rw [block_cell hHb1.out]; rfl
        have t9 : (wr.alloc (.cells #[.int .i64 kind, .bool near, .int .i64 x.m.kind, .int .i64 x.m.from_, .int .i64 x.m.to_, .int .i64 x.m.g, .int .i64 x.m.node, .int .i64 x.m.try_, .int .i64 x.m.low, .int .i64 x.m.code, .int .i64 x.m.ticket, .slice x.A x.m.told.length x.c, .slice x.B x.m.ops.length x.d, .int .i64 i, .int .i64 kk] 48)).cell? ⟨wr.heap.size, 9, none⟩ = some (.int .i64 x.m.code) := by rw [block_cell hHb1.out]; rfl
        have t10 : (wr.alloc (.cells #[.int .i64 kind, .bool near, .int .i64 x.m.kind, .int .i64 x.m.from_, .int .i64 x.m.to_, .int .i64 x.m.g, .int .i64 x.m.node, .int .i64 x.m.try_, .int .i64 x.m.low, .int .i64 x.m.code, .int .i64 x.m.ticket, .slice x.A x.m.told.length x.c, .slice x.B x.m.ops.length x.d, .int .i64 i, .int .i64 kk] 48)).cell? ⟨wr.heap.size, 10, none⟩ = some (.int .i64 x.m.ticket) := by rw [block_cell hHb1.out]; rfl
        have t11 : (wr.alloc (.cells #[.int .i64 kind, .bool near, .int .i64 x.m.kind, .int .i64 x.m.from_, .int .i64 x.m.to_, .int .i64 x.m.g, .int .i64 x.m.node, .int .i64 x.m.try_, .int .i64 x.m.low, .int .i64 x.m.code, .int .i64 x.m.ticket, .slice x.A x.m.told.length x.c, .slice x.B x.m.ops.length x.d, .int .i64 i, .int .i64 kk] 48)).cell? ⟨wr.heap.size, 11, none⟩ = some (.slice x.A x.m.told.length x.c) := by rw [block_cell hHb1.out]; rfl
        have t12 : (wr.alloc (.cells #[.int .i64 kind, .bool near, .int .i64 x.m.kind, .int .i64 x.m.from_, .int .i64 x.m.to_, .int .i64 x.m.g, .int .i64 x.m.node, .int .i64 x.m.try_, .int .i64 x.m.low, .int .i64 x.m.code, .int .i64 x.m.ticket, .slice x.A x.m.told.length x.c, .slice x.B x.m.ops.length x.d, .int .i64 i, .int .i64 kk] 48)).cell? ⟨wr.heap.size, 12, none⟩ = some (.slice x.B x.m.ops.length x.d) := by rw [block_cell hHb1.out]; rfl
        have t13 : (wr.alloc (.cells #[.int .i64 kind, .bool near, .int .i64 x.m.kind, .int .i64 x.m.from_, .int .i64 x.m.to_, .int .i64 x.m.g, .int .i64 x.m.node, .int .i64 x.m.try_, .int .i64 x.m.low, .int .i64 x.m.code, .int .i64 x.m.ticket, .slice x.A x.m.told.length x.c, .slice x.B x.m.ops.length x.d, .int .i64 i, .int .i64 kk] 48)).cell? ⟨wr.heap.size, 13, none⟩ = some (.int .i64 i) := by rw [block_cell hHb1.out]; rfl
        have t14 : (wr.alloc (.cells #[.int .i64 kind, .bool near, .int .i64 x.m.kind, .int .i64 x.m.from_, .int .i64 x.m.to_, .int .i64 x.m.g, .int .i64 x.m.node, .int .i64 x.m.try_, .int .i64 x.m.low, .int .i64 x.m.code, .int .i64 x.m.ticket, .slice x.A x.m.told.length x.c, .slice x.B x.m.ops.length x.d, .int .i64 i, .int .i64 kk] 48)).cell? ⟨wr.heap.size, 14, none⟩ = some (.int .i64 kk) := by rw [block_cell hHb1.out]; rfl
        clear ho
        by_cases h60 : 60 ≤ k
        · have d60 : decide ((60 : Int) ≤ k) = true := by simp; omega
          go_wp2_with fail
          generalize wr.alloc (.cells #[.int .i64 kind, .bool near, .int .i64 x.m.kind, .int .i64 x.m.from_, .int .i64 x.m.to_, .int .i64 x.m.g, .int .i64 x.m.node, .int .i64 x.m.try_, .int .i64 x.m.low, .int .i64 x.m.code, .int .i64 x.m.ticket, .slice x.A x.m.told.length x.c, .slice x.B x.m.ops.length x.d, .int .i64 i, .int .i64 kk] 48) = W1 at *
          refine (awake_any _ (hH.out.1.below hI1.out.below)).mono ?_
          rintro e wy ⟨rfl, hBy_⟩
          have hBy := Lib.hid (bnext hI1.out.below hBy_)
          clear hBy_
          go_wp2_with fail
          go_ret
          exact ⟨rfl, hBy.out⟩
        · have d60 : decide ((60 : Int) ≤ k) = false := by simp; omega
          have hst := Lib.hid (step_any (cz := cz) W (wr.alloc (.cells #[.int .i64 kind, .bool near, .int .i64 x.m.kind, .int .i64 x.m.from_, .int .i64 x.m.to_, .int .i64 x.m.g, .int .i64 x.m.node, .int .i64 x.m.try_, .int .i64 x.m.low, .int .i64 x.m.code, .int .i64 x.m.ticket, .slice x.A x.m.told.length x.c, .slice x.B x.m.ops.length x.d, .int .i64 i, .int .i64 kk] 48)) p q most ks kind near x i kk hH.out.1 hXM.out hI1.out.below hI1.out.net hI1.out.ref hg.out hp.out hq.out)
          simp only [opA] at hst
          go_wp2_with fail
          refine hst.out.mono ?_
          rintro e w3 ⟨rfl, c2, ks2, hI3_, hg3_⟩
          have hI3 := Lib.hid hI3_
          have hg3 := Lib.hid hg3_
          clear hI3_ hg3_
          go_wp2_with fail
          refine (same_any p q most ks2 w3 hI3.out.net hI3.out.ref hg3.out.small).mono ?_
          rintro e w4 ⟨rfl, hB_⟩
          have hI4 := Lib.hid (hI3.out.later hB_)
          clear hB_
          go_wp2_with fail
          go_roundw
          case rel => exact ⟨k + 1, c2, ks2, by omega, by omega, by go_num, rfl, hI4.out, hg3.out⟩
          case measure => simp [intOf]; omega
      · go_wp2_with fail
        refine (awake_any _ (hH.out.1.below hI.out.below)).mono ?_
        rintro e wy ⟨rfl, hBy_⟩
        have hBy := Lib.hid (bnext hI.out.below hBy_)
        clear hBy_
        go_wp2_with fail
        go_ret
        exact ⟨rfl, hBy.out⟩

end Go.Proofs.YteeiacfddjhhkaaGreatDoor
