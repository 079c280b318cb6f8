/- fault.New, At, Bound, In, First: errors that wrap one another, each with its number at the end of its chain. -/
import Derived.Test.YteeiacfddjhhkaaGreatDoorBase
namespace Go.Proofs.YteeiacfddjhhkaaGreatDoor
open Go.RowKit
set_option maxRecDepth 100000

/-- An error value whose chain ends in the number e. -/
inductive ErrIs (w : World) : Value → Int → Prop
  | num (b : Nat) (e : Int) (h : w.heap[b]? = some (.cells #[.int .i64 e] 122 (0, 0))) : ErrIs w (.iface 120 (.pointer (some ⟨b, 0, none⟩))) e
  | at_ (b : Nat) (x : Value) (p e : Int) (h : w.heap[b]? = some (.cells #[x, .int .i64 p] 119 (0, 0))) (hx : ErrIs w x e) : ErrIs w (.iface 115 (.pointer (some ⟨b, 0, none⟩))) e
  | bound (b : Nat) (x : Value) (l g e : Int) (h : w.heap[b]? = some (.cells #[x, .int .i64 l, .int .i64 g] 141 (0, 0))) (hx : ErrIs w x e) : ErrIs w (.iface 139 (.pointer (some ⟨b, 0, none⟩))) e
  | inn (b : Nat) (x : Value) (s : ByteArray) (e : Int) (h : w.heap[b]? = some (.cells #[x, .string s] 204 (0, 0))) (hx : ErrIs w x e) : ErrIs w (.iface 202 (.pointer (some ⟨b, 0, none⟩))) e
theorem ErrIs.later {w w' : World} {v : Value} {e : Int} (h : ErrIs w v e) (hb : Below w.heap.size w w') : ErrIs w' v e := by
  induction h with
  | num b e h => exact .num b e (block_below hb h)
  | at_ b x p e h _ ih => exact .at_ b x p e (block_below hb h) ih
  | bound b x l g e h _ ih => exact .bound b x l g e (block_below hb h) ih
  | inn b x s e h _ ih => exact .inn b x s e (block_below hb h) ih
theorem ErrIs.iface {w : World} {v : Value} {e : Int} (h : ErrIs w v e) : ∃ T b, v = .iface T (.pointer (some ⟨b, 0, none⟩)) := by
  cases h <;> exact ⟨_, _, rfl⟩
def RetE (w : World) (e : Int) (en : Ending) (w' : World) : Prop := ∃ T b, en = .returned (.iface T (.pointer (some ⟨b, 0, none⟩))) ∧ ErrIs w' (.iface T (.pointer (some ⟨b, 0, none⟩))) e ∧ Below w.heap.size w w'
theorem RetE.mk {w w' : World} {e : Int} {en : Ending} {v : Value} (hv : en = .returned v) (he : ErrIs w' v e) (hb : Below w.heap.size w w') : RetE w e en w' := by
  obtain ⟨T, b, rfl⟩ := he.iface
  exact ⟨T, b, hv, he, hb⟩

theorem new_err (e : Int) (he : e ≠ 0) (w : World) : Calls Tryz.prog 37 #[.int .i64 e] w (RetE w e) := by
  have hb : (e == 0) = false := by simpa using he
  go_enter Tryz.func37, Tryz.ntmps37
  go_wp2_with fail
  go_ret
  exact RetE.mk rfl (.num _ _ (heap_alloc_new w _)) (below_alloc (Below.refl _ _) _)
theorem new_ok (w : World) : Calls Tryz.prog 37 #[.int .i64 0] w fun en w' => en = .returned .nilIface ∧ w = w' := by
  go_enter Tryz.func37, Tryz.ntmps37
  go_wp2_with fail
  go_ret
  exact ⟨rfl, rfl⟩
theorem at_any (p : Int) (v : Value) (e : Int) (w : World) (h : ErrIs w v e) : Calls Tryz.prog 36 #[.int .i64 p, v] w (RetE w e) := by
  obtain ⟨T, b, rfl⟩ := h.iface
  have hE := Lib.hid h
  clear h
  go_enter Tryz.func36, Tryz.ntmps36
  go_wp2_with fail
  go_ret
  exact RetE.mk rfl (.at_ _ _ _ _ (heap_alloc_new w _) (hE.out.later (below_alloc (Below.refl _ _) _))) (below_alloc (Below.refl _ _) _)
theorem bound_any (l g : Int) (v : Value) (e : Int) (w : World) (h : ErrIs w v e) : Calls Tryz.prog 47 #[.int .i64 l, .int .i64 g, v] w (RetE w e) := by
  obtain ⟨T, b, rfl⟩ := h.iface
  have hE := Lib.hid h
  clear h
  go_enter Tryz.func47, Tryz.ntmps47
  go_wp2_with fail
  go_ret
  exact RetE.mk rfl (.bound _ _ _ _ _ (heap_alloc_new w _) (hE.out.later (below_alloc (Below.refl _ _) _))) (below_alloc (Below.refl _ _) _)
theorem in_any (s : ByteArray) (v : Value) (e : Int) (w : World) (h : ErrIs w v e) : Calls Tryz.prog 100 #[.string s, v] w (RetE w e) := by
  obtain ⟨T, b, rfl⟩ := h.iface
  have hE := Lib.hid h
  clear h
  go_enter Tryz.func100, Tryz.ntmps100
  go_wp2_with fail
  go_ret
  exact RetE.mk rfl (.inn _ _ _ _ (heap_alloc_new w _) (hE.out.later (below_alloc (Below.refl _ _) _))) (below_alloc (Below.refl _ _) _)
end Go.Proofs.YteeiacfddjhhkaaGreatDoor
