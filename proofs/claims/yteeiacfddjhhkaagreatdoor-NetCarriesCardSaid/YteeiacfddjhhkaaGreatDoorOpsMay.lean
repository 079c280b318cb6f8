/- ops.letters, Key, plain, check: what keys and operations there may be. -/
import Derived.Test.YteeiacfddjhhkaaGreatDoorFault
import Derived.Test.YteeiacfddjhhkaaGreatDoorOpsEnc
namespace Go.Proofs.YteeiacfddjhhkaaGreatDoor
open Go.RowKit
set_option maxRecDepth 100000

theorem let_cases (x : UInt8) : (97 ≤ (x.toNat : Int) ∧ (x.toNat : Int) ≤ 122 ∧ letC x = true) ∨ (48 ≤ (x.toNat : Int) ∧ (x.toNat : Int) ≤ 57 ∧ letC x = true) ∨ (46 ≤ (x.toNat : Int) ∧ (x.toNat : Int) ≤ 46 ∧ letC x = true) ∨
    (95 ≤ (x.toNat : Int) ∧ (x.toNat : Int) ≤ 95 ∧ letC x = true) ∨ ((x.toNat : Int) < 48 ∧ ((x.toNat : Int) == 46) = false ∧ letC x = false) ∨ (57 < (x.toNat : Int) ∧ (x.toNat : Int) < 97 ∧ ((x.toNat : Int) == 95) = false ∧ letC x = false) ∨ (122 < (x.toNat : Int) ∧ ((x.toNat : Int) == 46) = false ∧ ((x.toNat : Int) == 95) = false ∧ letC x = false) := by
  have e : letC x = (decide (97 ≤ x.toNat ∧ x.toNat ≤ 122) || decide (48 ≤ x.toNat ∧ x.toNat ≤ 57) || x.toNat == 46 || x.toNat == 95) := by
    simp [letC]
  by_cases a1 : 97 ≤ x.toNat ∧ x.toNat ≤ 122
  · exact .inl ⟨by omega, by omega, by rw [e]; simp [a1]⟩
  by_cases a2 : 48 ≤ x.toNat ∧ x.toNat ≤ 57
  · exact .inr (.inl ⟨by omega, by omega, by rw [e]; simp [a2]⟩)
  by_cases a3 : x.toNat = 46
  · exact .inr (.inr (.inl ⟨by omega, by omega, by rw [e]; simp [a3]⟩))
  by_cases a4 : x.toNat = 95
  · exact .inr (.inr (.inr (.inl ⟨by omega, by omega, by rw [e]; simp [a4]⟩)))
  have f : letC x = false := by rw [e]; simp [a3, a4]; omega
  have g46 : ((x.toNat : Int) == 46) = false := by simp; omega
  have g95 : ((x.toNat : Int) == 95) = false := by simp; omega
  by_cases a5 : x.toNat < 48
  · exact .inr (.inr (.inr (.inr (.inl ⟨by omega, g46, f⟩))))
  by_cases a6 : x.toNat < 97
  · exact .inr (.inr (.inr (.inr (.inr (.inl ⟨by omega, by omega, g95, f⟩)))))
  · exact .inr (.inr (.inr (.inr (.inr (.inr ⟨by omega, g46, g95, f⟩)))))
theorem letters_any (s : ByteArray) (hs : s.size ≤ 1000000) (w : World) :
    Calls Tryz.prog 150 #[.string s] w fun e w' => e = .returned (.bool (letS s.data.toList)) ∧ Below w.heap.size w w' := by
  go_enter Tryz.func150, Tryz.ntmps150
  go_wp2_with (refine list_of_wp rfl ?_; refine wp_conv_SB (.tmp 5) s (by omega) rfl rfl ?_; intro A c w1 hR_ hB_)
  have hR := Lib.hid hR_
  have hB := Lib.hid hB_
  clear hR_ hB_
  go_wp2_with fail
  go_loop [4, 8] (fun _ i => ∃ k : Nat, k ≤ s.size ∧ i = .int .i64 k ∧ Hid ((s.data.toList.take k).all letC = true)) (fun _ i => s.size - (intOf i).toNat)
  case atStart => exact ⟨0, by omega, rfl, rfl⟩
  case round =>
    obtain ⟨k, hk, rfl, hl⟩ := hrel
    by_cases hlt : k < s.size
    · have hk2 : k < s.data.toList.length := by simpa using hlt
      obtain ⟨ad, rfl, hc⟩ := hR.out.at_ hk2
      generalize hx : s.data.toList[k] = x at *
      have hX := Lib.hid hx
      clear hx
      have hx1 := x.toNat_lt
      have hgood : letC x = true → Hid ((s.data.toList.take (k + 1)).all letC = true) := fun h => Lib.hid (by rw [List.take_succ_eq_append_getElem hk2, List.all_append, hl.out, hX.out]; simp [h])
      have hbad : letC x = false → Hid (letS s.data.toList = false) := fun h => Lib.hid (by
        have : s.data.toList.all letC = false := by
          rw [← List.take_append_drop k s.data.toList, List.all_append, List.drop_eq_getElem_cons hk2, List.all_cons, hX.out, h]
          simp
        simp [letS, this])
      have hGood := Lib.hid hgood
      have hBad := Lib.hid hbad
      clear hgood hbad
      rcases let_cases x with ⟨h1, h2, h3⟩ | ⟨h1, h2, h3⟩ | ⟨h1, h2, h3⟩ | ⟨h1, h2, h3⟩ | ⟨h1, h2, h3⟩ | ⟨h1, h2, h4, h3⟩ | ⟨h1, h2, h4, h3⟩
      · have hG := hGood.out h3
        clear h3
        go_wp2_with fail
        go_round
        case rel => exact ⟨k + 1, by omega, by go_num, hG⟩
        case measure => simp [intOf]; omega
      · have hG := hGood.out h3
        clear h3
        go_wp2_with fail
        go_round
        case rel => exact ⟨k + 1, by omega, by go_num, hG⟩
        case measure => simp [intOf]; omega
      · have hG := hGood.out h3
        clear h3
        have h4 : ((x.toNat : Int) == 46) = true := by simp; omega
        go_wp2_with fail
        go_round
        case rel => exact ⟨k + 1, by omega, by go_num, hG⟩
        case measure => simp [intOf]; omega
      · have hG := hGood.out h3
        clear h3
        have h4 : ((x.toNat : Int) == 46) = false := by simp; omega
        have h5 : ((x.toNat : Int) == 95) = true := by simp; omega
        go_wp2_with fail
        go_round
        case rel => exact ⟨k + 1, by omega, by go_num, hG⟩
        case measure => simp [intOf]; omega
      · have hG := hBad.out h3
        clear h3
        have h4 : ((x.toNat : Int) == 46) = false := h2
        have h5 : ((x.toNat : Int) == 95) = false := by simp; omega
        go_wp2_with fail
        go_ret
        exact ⟨ret_bool hG.out.symm, hB.out⟩
      · have hG := hBad.out h3
        clear h3
        have h6 : ((x.toNat : Int) == 46) = false := by simp; omega
        have h7 : decide ((x.toNat : Int) ≤ 57) = false := by simp; omega
        have h5 : ((x.toNat : Int) == 95) = false := h4
        go_wp2_with fail
        go_ret
        exact ⟨ret_bool hG.out.symm, hB.out⟩
      · have hG := hBad.out h3
        clear h3
        have h6 : ((x.toNat : Int) == 46) = false := h2
        have h7 : decide ((x.toNat : Int) ≤ 57) = false := by simp; omega
        have h8 : decide ((x.toNat : Int) ≤ 122) = false := by simp; omega
        have h5 : ((x.toNat : Int) == 95) = false := h4
        go_wp2_with fail
        go_ret
        exact ⟨ret_bool hG.out.symm, hB.out⟩
    · have hk2 : s.data.toList.take k = s.data.toList := List.take_of_length_le (by simp; omega)
      have hl2 := hl.out
      rw [hk2] at hl2
      go_wp2_with fail
      go_ret
      exact ⟨ret_bool (by rw [letS, hl2]; simp [ByteArray.toList_eq]; done), hB.out⟩
theorem key_any (s : ByteArray) (hs : s.size ≤ 1000000) (w : World) :
    Calls Tryz.prog 127 #[.string s] w fun e w' => e = .returned (.bool (keyS s.data.toList)) ∧ Below w.heap.size w w' := by
  by_cases h : (s.size : Int) ≤ 16
  · have hd : decide ((s.size : Int) ≤ 16) = true := by simpa using h
    have hk : Hid (keyS s.data.toList = letS s.data.toList) := Lib.hid (by
      have : s.data.toList.length ≤ 16 := by simp; omega
      simp only [keyS, decide_eq_true this, Bool.true_and])
    go_enter Tryz.func127, Tryz.ntmps127
    go_wp2_with fail
    refine (letters_any s hs _).mono ?_
    rintro e w1 ⟨rfl, hB⟩
    go_wp2_with fail
    go_ret
    exact ⟨ret_bool hk.out.symm, hB⟩
  · have hd : decide ((s.size : Int) ≤ 16) = false := by simpa using h
    have hk : Hid (keyS s.data.toList = false) := Lib.hid (by
      have : ¬ s.data.toList.length ≤ 16 := by simp; omega
      simp only [keyS, decide_eq_false this, Bool.false_and])
    go_enter Tryz.func127, Tryz.ntmps127
    go_wp2_with fail
    go_ret
    exact ⟨ret_bool hk.out.symm, Below.refl _ _⟩
/-- May the numbers of an operation be so? -/
def plainO (o : POp) : Bool :=
  if o.kind == 1 || o.kind == 3 then (!(o.n != 0) && o.lo == 0) else if o.kind == 2 || o.kind == 4 || o.kind == 6 then o.lo == 0 else o.kind == 5
def opV (o : POp) : Value := .agg #[.int .i64 o.kind, .string o.key, .int .i64 o.n, .int .i64 o.lo]
theorem plain_any (o : POp) (w : World) :
    Calls Tryz.prog 126 #[opV o] w fun e w' => e = .returned (.bool (plainO o)) ∧ Below w.heap.size w w' := by
  obtain ⟨kind, key, n, lo⟩ := o
  show Calls Tryz.prog 126 #[.agg #[.int .i64 kind, .string key, .int .i64 n, .int .i64 lo]] w _
  go_enter Tryz.func126, Tryz.ntmps126
  go_wp2_with fail
  all_goals
    go_ret
    refine ⟨ret_bool ?_, below_alloc (Below.refl _ _) _⟩
    simp only [plainO, *]
    try simp
end Go.Proofs.YteeiacfddjhhkaaGreatDoor
