/- crc.One: the body of just one frame. -/
import Derived.Test.YteeiacfddjhhkaaGreatDoorPeel
namespace Go.Proofs.YteeiacfddjhhkaaGreatDoor
open Go.RowKit
set_option maxRecDepth 100000

theorem frame_same {bs p p' rest rest' : List UInt8} (h : frameAt bs p rest) (h' : frameAt bs p' rest') : p.length = p'.length := by
  have hl := frame_len h
  have g1 := List.getElem?_eq_getElem (l := bs) (i := 1) (by omega)
  have g2 := List.getElem?_eq_getElem (l := bs) (i := 2) (by omega)
  rw [← frame_12 h g1 g2, ← frame_12 h' g1 g2]
def OneRet (w : World) (bs : List UInt8) (e : Ending) (w' : World) : Prop :=
  (∃ p A c, p.length ≤ 16384 ∧ bs = wrapB p ∧ e = .returned (.tuple #[.slice A p.length c, .bool true]) ∧ OB w' w.heap.size (.slice A p.length c) p ∧ Below w.heap.size w w') ∨
  ((∀ p, p.length ≤ 16384 → bs ≠ wrapB p) ∧ e = .returned (.tuple #[.slice none 0 0, .bool false]) ∧ Below w.heap.size w w')
theorem one_any (v : Value) (bs : List UInt8) (w : World) (h : RB w v bs) (hl : bs.length ≤ 100000) :
    Calls Tryz.prog 42 #[v] w (OneRet w bs) := by
  obtain ⟨A, c, hv, _⟩ := id h
  have hR := Lib.hid h
  clear h
  subst hv
  go_enter Tryz.func42, Tryz.ntmps42
  go_wp2_with fail
  refine (peel_any _ bs _ hR.out hl).mono ?_
  rintro e w1 (⟨p, rest, A1, c1, hf_, rfl, hO_, hB_⟩ | ⟨hno_, rfl, hB_⟩)
  · have hf := Lib.hid hf_
    have hO := Lib.hid hO_
    have hB := Lib.hid hB_
    have hlen := frame_len hf_
    have hp := hf_.1
    have hz : (((p.length : Int) + 7) == 0) = false := by simp; omega
    clear hf_ hO_ hB_
    by_cases hr : rest.length = 0
    · have hbs : Hid (bs = wrapB p) := Lib.hid (by rw [hf.out.2, List.eq_nil_of_length_eq_zero hr, List.append_nil])
      have hq : (((p.length : Int) + 7) != (bs.length : Int)) = false := by simp; omega
      have hne : ¬ ((p.length : Int) + 7 = 0) := by omega
      clear hlen
      go_wp2_with fail
      refine bodyPost_ret (v := .tuple #[.slice A1 p.length c1, .bool true]) ?_ rfl (.inl ⟨p, A1, c1, hp, hbs.out, rfl, hO.out, hB.out⟩)
      simp [results, Tryz.results42, go_sem]
    · have hno : Hid (∀ p', p'.length ≤ 16384 → bs ≠ wrapB p') := Lib.hid (fun p' hp' he => by
        have h2 : frameAt bs p' [] := ⟨hp', by rw [List.append_nil]; exact he⟩
        have h3 := frame_same hf.out h2
        have h4 := frame_len h2
        simp at h4
        omega)
      have hq : (((p.length : Int) + 7) != (bs.length : Int)) = true := by simp; omega
      have hne : ¬ ((p.length : Int) + 7 = 0) := by omega
      clear hlen
      go_wp2_with fail
      refine bodyPost_ret (v := .tuple #[.slice none 0 0, .bool false]) ?_ rfl (.inr ⟨hno.out, rfl, hB.out⟩)
      simp [results, Tryz.results42, go_sem]
  · have hno : Hid (∀ p', p'.length ≤ 16384 → bs ≠ wrapB p') := Lib.hid (fun p' hp' he => hno_ p' [] ⟨hp', by rw [List.append_nil]; exact he⟩)
    have hB := Lib.hid hB_
    clear hno_ hB_
    go_wp2_with fail
    refine bodyPost_ret (v := .tuple #[.slice none 0 0, .bool false]) ?_ rfl (.inr ⟨hno.out, rfl, hB.out⟩)
    simp [results, Tryz.results42, go_sem]
end Go.Proofs.YteeiacfddjhhkaaGreatDoor
