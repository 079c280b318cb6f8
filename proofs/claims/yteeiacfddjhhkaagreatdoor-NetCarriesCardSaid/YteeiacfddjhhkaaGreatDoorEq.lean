/- bytes.Equal, bytes.Clone, slices.Equal at bytes. -/
import Derived.Test.YteeiacfddjhhkaaGreatDoorEncPlain
import Derived.Lib.SliceRun
namespace Go.Proofs.YteeiacfddjhhkaaGreatDoor
open Go.RowKit
set_option maxRecDepth 100000

theorem str_inj {a b : List UInt8} : ((⟨a.toArray⟩ : ByteArray) = ⟨b.toArray⟩) ↔ a = b := by simp
theorem bytesEq_any (v1 v2 : Value) (a b : List UInt8) (w : World) (h1 : RB w v1 a) (h2 : RB w v2 b) :
    Calls Tryz.prog 90 #[v1, v2] w fun e w' => e = .returned (.bool (decide (a = b))) ∧ w' = w := by
  obtain ⟨A1, c1, hv1, _⟩ := id h1
  obtain ⟨A2, c2, hv2, _⟩ := id h2
  have hR1 := Lib.hid h1
  have hR2 := Lib.hid h2
  clear h1 h2
  subst hv1 hv2
  go_enter Tryz.func90, Tryz.ntmps90
  have g1 := run_conv_BS hR1.out
  have g2 := run_conv_BS hR2.out
  go_wp2_with fail
  go_ret
  exact ⟨congrArg (fun x => Ending.returned (.bool x)) (by rw [Bool.eq_iff_iff]; simp), rfl⟩
theorem clone_any (v : Value) (bs : List UInt8) (w : World) (h : RB w v bs) (hl : bs.length ≤ 1000000) :
    Calls Tryz.prog 46 #[v] w (RetB w bs) := by
  obtain ⟨A, c, hv, hn, hc, hm, hr⟩ := id h
  have hR := Lib.hid h
  clear h
  subst hv
  have q22 : ∀ (w : World), (binOp .eql 51 (.slice A bs.length c) (.slice none 0 0)).run Tryz.prog w = .ok (.bool A.isNone) w := fun w => Lib.run_eql_slice_nil w _ 5 A _ c 0 0 Tryz.underlying51
  cases A with
  | none =>
    obtain rfl : bs = [] := List.eq_nil_of_length_eq_zero (by have := hn rfl; omega)
    go_enter Tryz.func46, Tryz.ntmps46
    have hc0 : c = 0 := hn rfl
    subst hc0
    have q23 := fun w => q22 w
    simp only [List.length_nil, Option.isNone_none] at q23
    clear q22
    go_wp2_with fail
    go_ret
    exact RetB.mk rfl (v := .slice none 0 0) (OB.nil _ _) (Below.refl _ _)
  | some ad =>
    clear hn hr
    simp only [Option.isNone_some] at q22
    go_enter Tryz.func46, Tryz.ntmps46
    go_wp2_with (at_builtin; refine list_of_wp rfl ?_; refine wp_append_B (.tmp 5) (.tmp 6) rfl w.heap.size (.slice (some ⟨w.heap.size, 0, none⟩) 0 0) (.slice (some ad) bs.length c) [] bs bs rfl rfl ?c1 rfl ?c2 ?c3 ?c4 ?_)
    case c1 =>
      have := World.ownsRow_made (base := w.heap.size) (e := 5) (size := 1) w #[] 0 (by simp) (by simp) (by simp)
      exact this
    case c2 => exact hR.out.below (below_alloc (Below.refl _ _) _)
    case c3 => simp; omega
    case c4 => simp
    intro v' w1 hO_ hg_ _
    have hO := Lib.hid hO_
    have hB := Lib.hid ((below_alloc (Below.refl _ w) (.cells #[] 5)).grown hg_ (by simp) (by intro q hq; simp [Value.ownBlock] at hq; omega))
    clear hO_ hg_
    go_wp2_with fail
    go_ret
    exact RetB.mk rfl (v := v') hO.out hB.out
theorem slicesEq_any (v1 v2 : Value) (a b : List UInt8) (w : World) (h1 : RB w v1 a) (h2 : RB w v2 b) (hal : a.length ≤ 1000000) (hbl : b.length ≤ 1000000) :
    Calls Tryz.prog 45 #[v1, v2] w fun e w' => e = .returned (.bool (decide (a = b))) ∧ Below w.heap.size w w' := by
  obtain ⟨A1, c1, hv1, _, _, hm1, _⟩ := id h1
  obtain ⟨A2, c2, hv2, _, _, hm2, _⟩ := id h2
  have hR1 := Lib.hid h1
  have hR2 := Lib.hid h2
  clear h1 h2 hm1 hm2
  subst hv1 hv2
  by_cases hlen : (a.length : Int) = b.length
  · have hll : a.length = b.length := by omega
    go_enter Tryz.func45, Tryz.ntmps45
    go_wp2_with fail
    go_loopw [5, 13] (fun _ i wr => ∃ k : Nat, k ≤ a.length ∧ i = .int .i64 k ∧ Hid (a.take k = b.take k) ∧ Below w.heap.size w wr) (fun _ i _ => a.length - (intOf i).toNat)
    case atStart => exact ⟨0, by omega, rfl, Lib.hid rfl, Below.refl _ _⟩
    case round =>
      obtain ⟨k, hk, rfl, hT, hB_⟩ := hrel
      have hB := Lib.hid hB_
      by_cases hlt : k < a.length
      · have hlt2 : k < b.length := by omega
        obtain ⟨ad1, rfl, hc1⟩ := (hR1.out.below hB_).at_ hlt
        obtain ⟨ad2, rfl, hc2⟩ := (hR2.out.below hB_).at_ hlt2
        clear hB_
        by_cases he : a[k] = b[k]
        · have hT2 : Hid (a.take (k + 1) = b.take (k + 1)) := Lib.hid (by rw [List.take_succ_eq_append_getElem hlt, List.take_succ_eq_append_getElem hlt2, hT.out, he])
          have hne : ((a[k].toNat : Int) != b[k].toNat) = false := by simp [he]
          generalize a[k].toNat = x at *
          generalize b[k].toNat = y at *
          clear he
          go_wp2_with fail
          go_quiet (fail)
          go_wp2_with fail
          go_roundw
          case rel => exact ⟨k + 1, by omega, by go_num, hT2, below_drewN hB.out _⟩
          case measure => simp [intOf]; omega
        · have hab : Hid (decide (a = b) = false) := Lib.hid (by simp; intro h; subst h; exact he rfl)
          have hne : ((a[k].toNat : Int) != b[k].toNat) = true := by simp; intro h; exact he (UInt8.toNat_inj.1 (by omega))
          generalize a[k].toNat = x at *
          generalize b[k].toNat = y at *
          clear he
          go_wp2_with fail
          go_quiet (fail)
          go_wp2_with fail
          go_ret
          exact ⟨by rw [hab.out]; rfl, below_drewN hB.out _⟩
      · have hab : Hid (decide (a = b) = true) := Lib.hid (by
          have h := hT.out
          rw [List.take_of_length_le (by omega), List.take_of_length_le (by omega)] at h
          simp [h])
        clear hB_ hT
        go_wp2_with fail
        go_ret
        exact ⟨by rw [hab.out]; rfl, hB.out⟩
  · have hab : Hid (decide (a = b) = false) := Lib.hid (by simp; intro h; subst h; exact hlen rfl)
    go_enter Tryz.func45, Tryz.ntmps45
    go_wp2_with fail
    go_ret
    exact ⟨by rw [hab.out]; rfl, Below.refl _ _⟩
end Go.Proofs.YteeiacfddjhhkaaGreatDoor
