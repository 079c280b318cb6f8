/- ops.check, ops.Check: what is wrong with operations. -/
import Derived.Test.YteeiacfddjhhkaaGreatDoorOpsMay
namespace Go.Proofs.YteeiacfddjhhkaaGreatDoor
open Go.RowKit
set_option maxRecDepth 100000

def goodO (o : POp) : Bool := plainO o && keyS o.key.data.toList
def checkO (l : List POp) : Int := if 8 < l.length then 7 else if l.all goodO then 0 else 2
/-- An error, or none, by its number. -/
def RetX (w : World) (c : Int) (en : Ending) (w' : World) : Prop := (c = 0 ∧ en = .returned .nilIface ∧ Below w.heap.size w w') ∨ (c ≠ 0 ∧ RetE w c en w')
theorem RetX.of_err {w w0 w' : World} {c c' : Int} {en : Ending} (hc : c' = c) (h0 : c ≠ 0) (hb : Below w.heap.size w w0) (h : RetE w0 c en w') : RetX w c' en w' := by
  subst hc
  obtain ⟨T, b, h1, h2, h3⟩ := h
  exact .inr ⟨h0, T, b, h1, h2, bnext hb h3⟩

theorem opsCheck_any (A : Option Addr) (c : Nat) (l : List POp) (w : World) (hr : RowAt w A (opsC l)) (hl : l.length ≤ 1000000) (hk : ∀ o ∈ l, o.key.size ≤ 1000000) :
    Calls Tryz.prog 129 #[.slice A l.length c] w (RetX w (checkO l)) := by
  by_cases h8 : 8 < l.length
  · have hC : Hid (checkO l = 7) := Lib.hid (by rw [checkO, if_pos h8])
    go_enter Tryz.func129, Tryz.ntmps129
    go_wp2_with fail
    refine (new_err 7 (by decide) _).mono ?_
    rintro e w1 ⟨T, b, rfl, hE, hB⟩
    have hE' := Lib.hid hE
    have hB' := Lib.hid hB
    clear hE hB
    go_wp2_with fail
    refine (bound_any _ _ _ 7 _ hE'.out).mono ?_
    rintro e w2 ⟨T2, b2, rfl, hE2, hB2⟩
    have hX := Lib.hid (RetX.of_err hC.out (by decide) hB'.out ⟨T2, b2, rfl, hE2, hB2⟩)
    clear hE2 hB2
    go_wp2_with fail
    go_ret
    exact hX.out
  · have hR := Lib.hid hr
    have hK := Lib.hid hk
    clear hr hk
    go_enter Tryz.func129, Tryz.ntmps129
    go_wp2_with fail
    go_loopw [3, 4, 14] (fun _ _ i wr => ∃ k : Nat, k ≤ l.length ∧ i = .int .i64 k ∧ Hid ((l.take k).all goodO = true) ∧ Below w.heap.size w wr) (fun _ _ i _ => l.length - (intOf i).toNat)
    case atStart => exact ⟨0, by omega, rfl, rfl, Below.refl _ _⟩
    case round =>
      obtain ⟨k, hk, rfl, hG, hB_⟩ := hrel
      have hB := Lib.hid hB_
      clear hB_
      by_cases hlt : k < l.length
      · obtain ⟨ad, rfl, c0, c1, c2, c3⟩ := ops_at (hR.out.below hB.out) hlt
        have hxk := hK.out _ (List.getElem_mem hlt)
        have hgood : goodO l[k] = true → Hid ((l.take (k + 1)).all goodO = true) := fun h => Lib.hid (by rw [List.take_succ_eq_append_getElem hlt, List.all_append, hG.out]; simp [h])
        have hbad : goodO l[k] = false → Hid (checkO l = 2) := fun h => Lib.hid (by
          have : l.all goodO = false := by
            rw [← List.take_append_drop k l, List.all_append, List.drop_eq_getElem_cons hlt, List.all_cons, h]
            simp
          rw [checkO, if_neg h8, this]; rfl)
        have hGood := Lib.hid hgood
        have hBad := Lib.hid hbad
        clear hgood hbad
        generalize hx : l[k] = x at *
        have hX := Lib.hid hx
        clear hx
        have hp := plain_any x
        obtain ⟨kind, key, n, lo⟩ := x
        simp only at c0 c1 c2 c3 hxk
        have hP := Lib.hid hp
        clear hp
        have hky := Lib.hid (key_any key hxk)
        have hB1 := Lib.hid (below_alloc hB.out (.cells #[.int .i64 kind, .string key, .int .i64 n, .int .i64 lo] 108))
        go_wp2_with fail
        refine (hP.out _).mono ?_
        rintro e w1 ⟨rfl, hB2_⟩
        have hB2 := Lib.hid (bnext hB1.out hB2_)
        have hcell := cell_below hB2_ (a := ⟨wr.heap.size, 1, none⟩) (v := .string key) (by simp)
        clear hB2_
        by_cases hpl : plainO ⟨kind, key, n, lo⟩ = true
        · rw [hpl]
          go_wp2_with fail
          refine (hky.out _).mono ?_
          rintro e w2 ⟨rfl, hB3_⟩
          have hB3 := Lib.hid (bnext hB2.out hB3_)
          clear hB3_
          by_cases hks : keyS key.data.toList = true
          · have hgg := hGood.out (by simp [goodO, hpl, hks])
            rw [hks]
            clear hpl hks
            go_wp2_with fail
            go_roundw
            case rel => exact ⟨k + 1, by omega, by go_num, hgg, hB3.out⟩
            case measure => simp [intOf]; omega
          · have hgg := hBad.out (by simp [goodO, hpl, hks])
            have hks' : keyS key.data.toList = false := by simpa using hks
            rw [hks']
            clear hpl hks hks'
            go_wp2_with fail
            refine (new_err 2 (by decide) _).mono ?_
            rintro e w8 ⟨T, b, rfl, hE_, hB8_⟩
            have hE := Lib.hid hE_
            have hB8 := Lib.hid (bnext hB3.out hB8_)
            clear hE_ hB8_
            go_wp2_with fail
            refine (at_any _ _ 2 _ hE.out).mono ?_
            rintro e w9 ⟨T2, b2, rfl, hE2, hB9⟩
            have hX9 := Lib.hid (RetX.of_err hgg.out (by decide) hB8.out ⟨T2, b2, rfl, hE2, hB9⟩)
            clear hE2 hB9
            go_wp2_with fail
            go_ret
            exact hX9.out
        · have hpl' : plainO ⟨kind, key, n, lo⟩ = false := by simpa using hpl
          have hgg := hBad.out (by simp [goodO, hpl'])
          rw [hpl']
          clear hpl hpl'
          go_wp2_with fail
          refine (new_err 2 (by decide) _).mono ?_
          rintro e w8 ⟨T, b, rfl, hE_, hB8_⟩
          have hE := Lib.hid hE_
          have hB8 := Lib.hid (bnext hB2.out hB8_)
          clear hE_ hB8_
          go_wp2_with fail
          refine (at_any _ _ 2 _ hE.out).mono ?_
          rintro e w9 ⟨T2, b2, rfl, hE2, hB9⟩
          have hX9 := Lib.hid (RetX.of_err hgg.out (by decide) hB8.out ⟨T2, b2, rfl, hE2, hB9⟩)
          clear hE2 hB9
          go_wp2_with fail
          go_ret
          exact hX9.out
      · have hk2 : l.take k = l := List.take_of_length_le (by omega)
        have hG2 := hG.out
        rw [hk2] at hG2
        have hC : Hid (checkO l = 0) := Lib.hid (by rw [checkO, if_neg h8, hG2]; rfl)
        go_wp2_with fail
        go_ret
        exact .inl ⟨hC.out, rfl, hB.out⟩
end Go.Proofs.YteeiacfddjhhkaaGreatDoor
