/- mess.May is the plain question mayM, for every message whose operations can be read. -/
import Derived.Test.YteeiacfddjhhkaaGreatDoorMayA
import Derived.Test.YteeiacfddjhhkaaGreatDoorMayB
import Derived.Test.YteeiacfddjhhkaaGreatDoorMayC
import Derived.Test.YteeiacfddjhhkaaGreatDoorMayD
namespace Go.Proofs.YteeiacfddjhhkaaGreatDoor
open Go.RowKit
set_option maxRecDepth 100000

theorem check_any (m : PMsg) (A : Option Addr) (c : Nat) (B : Option Addr) (d : Nat) (w : World) (hr : RowAt w B (opsC m.ops)) (hl : m.ops.length ≤ 1000000) (hl2 : m.told.length ≤ 1000000) (hk : ∀ o ∈ m.ops, o.key.size ≤ 1000000) (hG : GOk w) :
    Calls Tryz.prog 75 #[.agg (msgA m A c B d)] w (CheckRet m w) := by
  by_cases h4 : m.kind ≤ 4
  · exact check_4 m A c B d w hr hl hl2 hk hG h4
  cases h12 : (m.kind == 12)
  · cases h14 : (m.kind == 14)
    · exact check_o m A c B d w hr hl hl2 hk hG ⟨h4, h12, h14⟩
    · exact check_14 m A c B d w hr hl hl2 hk hG ⟨h12, h14⟩
  · exact check_12 m A c B d w hr hl hl2 hk hG h12
theorem may_any (m : PMsg) (A : Option Addr) (c : Nat) (B : Option Addr) (d : Nat) (w : World) (hr : RowAt w B (opsC m.ops)) (hl : m.ops.length ≤ 1000000) (hl2 : m.told.length ≤ 1000000) (hk : ∀ o ∈ m.ops, o.key.size ≤ 1000000) (hG : GOk w) :
    Calls Tryz.prog 44 #[.agg (msgA m A c B d)] w fun e w' => e = .returned (.bool (mayM m)) ∧ Below w.heap.size w w' := by
  have hck := fun W hr hG => check_any m A c B d W hr hl hl2 hk hG
  have hCK := Lib.hid hck
  clear hck hk
  obtain ⟨kind, from_, to_, g, node, try_, low, code, ticket, told, ops⟩ := m
  simp only at hr hl hl2
  have hB0 := below_alloc (Below.refl _ w) (.cells #[.int .i64 kind, .int .i64 from_, .int .i64 to_, .int .i64 g, .int .i64 node, .int .i64 try_, .int .i64 low, .int .i64 code, .int .i64 ticket, .slice A told.length c, .slice B ops.length d] 37)
  have hR := Lib.hid (hr.below hB0)
  have hGG := Lib.hid (hG.below hB0)
  have hBB := Lib.hid hB0
  clear hr hG hB0
  show Calls Tryz.prog 44 #[.agg #[.int .i64 kind, .int .i64 from_, .int .i64 to_, .int .i64 g, .int .i64 node, .int .i64 try_, .int .i64 low, .int .i64 code, .int .i64 ticket, .slice A told.length c, .slice B ops.length d]] w _
  go_enter Tryz.func44, Tryz.ntmps44
  go_wp2_with fail
  refine (hCK.out _ hR.out hGG.out).mono ?_
  rintro en w1 (⟨hm, rfl, hB1⟩ | ⟨hm, T, b, rfl, hB1⟩)
  · have hM := Lib.hid hm
    have hB2 := Lib.hid (bnext hBB.out hB1)
    clear hm hB1
    go_wp2_with fail
    go_ret
    exact ⟨ret_bool hM.out.symm, hB2.out⟩
  · have hM := Lib.hid hm
    have hB2 := Lib.hid (bnext hBB.out hB1)
    clear hm hB1
    go_wp2_with fail
    go_ret
    exact ⟨ret_bool hM.out.symm, hB2.out⟩
end Go.Proofs.YteeiacfddjhhkaaGreatDoor
