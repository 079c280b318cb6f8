/- The document's May of messages is the plain word mayM. The document's May of messages is the plain word mayM. -/
import Derived.Test.YteeiacfddjhhkaaGreatDoorROps2
import Derived.Test.YteeiacfddjhhkaaGreatDoorMay
import Derived.Test.YteeiacfddjhhkaaGreatDoorEnc
namespace Go.Proofs.YteeiacfddjhhkaaGreatDoor
open Go.RowKit
set_option maxRecDepth 100000

theorem rin_any (n lo hi : Int) (w : World) : Calls Tryz.prog 132 #[.int .i64 n, .int .i64 lo, .int .i64 hi] w fun e w' => e = .returned (.bool (withinB n lo hi)) ∧ w = w' := by
  by_cases h : lo ≤ n
  · have hd : decide (lo ≤ n) = true := decide_eq_true h
    go_enter Tryz.func132, Tryz.ntmps132
    go_wp2_with fail
    go_ret
    exact ⟨ret_bool (by simp [withinB, h]), rfl⟩
  · have hd : decide (lo ≤ n) = false := decide_eq_false h
    go_enter Tryz.func132, Tryz.ntmps132
    go_wp2_with fail
    go_ret
    exact ⟨ret_bool (by simp [withinB]; omega), rfl⟩
theorem rHas_1 (w : World) : Calls Tryz.prog 131 #[.int .i64 1] w fun e w' => e = .returned (.string ⟨#[116, 108, 111]⟩) ∧ w' = w := by
  go_enter Tryz.func131, Tryz.ntmps131
  go_wp2_with fail
  go_ret
  exact ⟨rfl, rfl⟩
theorem rHas_4 (w : World) : Calls Tryz.prog 131 #[.int .i64 4] w fun e w' => e = .returned (.string ⟨#[116, 108, 111]⟩) ∧ w' = w := by
  go_enter Tryz.func131, Tryz.ntmps131
  go_wp2_with fail
  go_ret
  exact ⟨rfl, rfl⟩
theorem rHas_2 (w : World) : Calls Tryz.prog 131 #[.int .i64 2] w fun e w' => e = .returned (.string ⟨#[116, 108]⟩) ∧ w' = w := by
  go_enter Tryz.func131, Tryz.ntmps131
  go_wp2_with fail
  go_ret
  exact ⟨rfl, rfl⟩
theorem rHas_3 (w : World) : Calls Tryz.prog 131 #[.int .i64 3] w fun e w' => e = .returned (.string ⟨#[108]⟩) ∧ w' = w := by
  go_enter Tryz.func131, Tryz.ntmps131
  go_wp2_with fail
  go_ret
  exact ⟨rfl, rfl⟩
theorem rHas_11 (w : World) : Calls Tryz.prog 131 #[.int .i64 11] w fun e w' => e = .returned (.string ⟨#[116, 107]⟩) ∧ w' = w := by
  go_enter Tryz.func131, Tryz.ntmps131
  go_wp2_with fail
  go_ret
  exact ⟨rfl, rfl⟩
theorem rHas_12 (w : World) : Calls Tryz.prog 131 #[.int .i64 12] w fun e w' => e = .returned (.string ⟨#[116, 99]⟩) ∧ w' = w := by
  go_enter Tryz.func131, Tryz.ntmps131
  go_wp2_with fail
  go_ret
  exact ⟨rfl, rfl⟩
theorem rHas_14 (w : World) : Calls Tryz.prog 131 #[.int .i64 14] w fun e w' => e = .returned (.string ⟨#[116, 99]⟩) ∧ w' = w := by
  go_enter Tryz.func131, Tryz.ntmps131
  go_wp2_with fail
  go_ret
  exact ⟨rfl, rfl⟩
theorem rHas_13 (w : World) : Calls Tryz.prog 131 #[.int .i64 13] w fun e w' => e = .returned (.string ⟨#[]⟩) ∧ w' = w := by
  go_enter Tryz.func131, Tryz.ntmps131
  go_wp2_with fail
  go_ret
  exact ⟨rfl, rfl⟩
theorem rHas_15 (w : World) : Calls Tryz.prog 131 #[.int .i64 15] w fun e w' => e = .returned (.string ⟨#[]⟩) ∧ w' = w := by
  go_enter Tryz.func131, Tryz.ntmps131
  go_wp2_with fail
  go_ret
  exact ⟨rfl, rfl⟩
theorem rHas_16 (w : World) : Calls Tryz.prog 131 #[.int .i64 16] w fun e w' => e = .returned (.string ⟨#[]⟩) ∧ w' = w := by
  go_enter Tryz.func131, Tryz.ntmps131
  go_wp2_with fail
  go_ret
  exact ⟨rfl, rfl⟩
theorem rHas_no (k : Int) (w : World) (h1 : (k == 1) = false) (h4 : (k == 4) = false) (h2 : (k == 2) = false) (h3 : (k == 3) = false) (h11 : (k == 11) = false) (h12 : (k == 12) = false) (h14 : (k == 14) = false) (h13 : (k == 13) = false) (h15 : (k == 15) = false) (h16 : (k == 16) = false) : Calls Tryz.prog 131 #[.int .i64 k] w fun e w' => e = .returned (.string ⟨#[63]⟩) ∧ w' = w := by
  go_enter Tryz.func131, Tryz.ntmps131
  go_wp2_with fail
  go_ret
  exact ⟨rfl, rfl⟩
theorem rhas_tlo_t (w : World) : Calls Tryz.prog 133 #[.string ⟨#[116, 108, 111]⟩, .int .u8 116] w fun e w' => e = .returned (.bool true) ∧ w' = w := by
  go_enter Tryz.func133, Tryz.ntmps133
  go_wp2_with fail
  refine wp_loop_rounds 1 ?_
  rw [rounds_succ]
  go_wp2_with fail
  go_ret
  exact ⟨rfl, rfl⟩
theorem rhas_tlo_l (w : World) : Calls Tryz.prog 133 #[.string ⟨#[116, 108, 111]⟩, .int .u8 108] w fun e w' => e = .returned (.bool true) ∧ w' = w := by
  go_enter Tryz.func133, Tryz.ntmps133
  go_wp2_with fail
  refine wp_loop_rounds 2 ?_
  rw [rounds_succ]
  go_wp2_with fail
  rw [rounds_succ]
  go_wp2_with fail
  go_ret
  exact ⟨rfl, rfl⟩
theorem rhas_tlo_c (w : World) : Calls Tryz.prog 133 #[.string ⟨#[116, 108, 111]⟩, .int .u8 99] w fun e w' => e = .returned (.bool false) ∧ w' = w := by
  go_enter Tryz.func133, Tryz.ntmps133
  go_wp2_with fail
  refine wp_loop_rounds 4 ?_
  rw [rounds_succ]
  go_wp2_with fail
  rw [rounds_succ]
  go_wp2_with fail
  rw [rounds_succ]
  go_wp2_with fail
  rw [rounds_succ]
  go_wp2_with fail
  go_ret
  exact ⟨rfl, rfl⟩
theorem rhas_tlo_k (w : World) : Calls Tryz.prog 133 #[.string ⟨#[116, 108, 111]⟩, .int .u8 107] w fun e w' => e = .returned (.bool false) ∧ w' = w := by
  go_enter Tryz.func133, Tryz.ntmps133
  go_wp2_with fail
  refine wp_loop_rounds 4 ?_
  rw [rounds_succ]
  go_wp2_with fail
  rw [rounds_succ]
  go_wp2_with fail
  rw [rounds_succ]
  go_wp2_with fail
  rw [rounds_succ]
  go_wp2_with fail
  go_ret
  exact ⟨rfl, rfl⟩
theorem rhas_tlo_o (w : World) : Calls Tryz.prog 133 #[.string ⟨#[116, 108, 111]⟩, .int .u8 111] w fun e w' => e = .returned (.bool true) ∧ w' = w := by
  go_enter Tryz.func133, Tryz.ntmps133
  go_wp2_with fail
  refine wp_loop_rounds 3 ?_
  rw [rounds_succ]
  go_wp2_with fail
  rw [rounds_succ]
  go_wp2_with fail
  rw [rounds_succ]
  go_wp2_with fail
  go_ret
  exact ⟨rfl, rfl⟩
theorem rhas_tl_t (w : World) : Calls Tryz.prog 133 #[.string ⟨#[116, 108]⟩, .int .u8 116] w fun e w' => e = .returned (.bool true) ∧ w' = w := by
  go_enter Tryz.func133, Tryz.ntmps133
  go_wp2_with fail
  refine wp_loop_rounds 1 ?_
  rw [rounds_succ]
  go_wp2_with fail
  go_ret
  exact ⟨rfl, rfl⟩
theorem rhas_tl_l (w : World) : Calls Tryz.prog 133 #[.string ⟨#[116, 108]⟩, .int .u8 108] w fun e w' => e = .returned (.bool true) ∧ w' = w := by
  go_enter Tryz.func133, Tryz.ntmps133
  go_wp2_with fail
  refine wp_loop_rounds 2 ?_
  rw [rounds_succ]
  go_wp2_with fail
  rw [rounds_succ]
  go_wp2_with fail
  go_ret
  exact ⟨rfl, rfl⟩
theorem rhas_tl_c (w : World) : Calls Tryz.prog 133 #[.string ⟨#[116, 108]⟩, .int .u8 99] w fun e w' => e = .returned (.bool false) ∧ w' = w := by
  go_enter Tryz.func133, Tryz.ntmps133
  go_wp2_with fail
  refine wp_loop_rounds 3 ?_
  rw [rounds_succ]
  go_wp2_with fail
  rw [rounds_succ]
  go_wp2_with fail
  rw [rounds_succ]
  go_wp2_with fail
  go_ret
  exact ⟨rfl, rfl⟩
theorem rhas_tl_k (w : World) : Calls Tryz.prog 133 #[.string ⟨#[116, 108]⟩, .int .u8 107] w fun e w' => e = .returned (.bool false) ∧ w' = w := by
  go_enter Tryz.func133, Tryz.ntmps133
  go_wp2_with fail
  refine wp_loop_rounds 3 ?_
  rw [rounds_succ]
  go_wp2_with fail
  rw [rounds_succ]
  go_wp2_with fail
  rw [rounds_succ]
  go_wp2_with fail
  go_ret
  exact ⟨rfl, rfl⟩
theorem rhas_tl_o (w : World) : Calls Tryz.prog 133 #[.string ⟨#[116, 108]⟩, .int .u8 111] w fun e w' => e = .returned (.bool false) ∧ w' = w := by
  go_enter Tryz.func133, Tryz.ntmps133
  go_wp2_with fail
  refine wp_loop_rounds 3 ?_
  rw [rounds_succ]
  go_wp2_with fail
  rw [rounds_succ]
  go_wp2_with fail
  rw [rounds_succ]
  go_wp2_with fail
  go_ret
  exact ⟨rfl, rfl⟩
theorem rhas_l_t (w : World) : Calls Tryz.prog 133 #[.string ⟨#[108]⟩, .int .u8 116] w fun e w' => e = .returned (.bool false) ∧ w' = w := by
  go_enter Tryz.func133, Tryz.ntmps133
  go_wp2_with fail
  refine wp_loop_rounds 2 ?_
  rw [rounds_succ]
  go_wp2_with fail
  rw [rounds_succ]
  go_wp2_with fail
  go_ret
  exact ⟨rfl, rfl⟩
theorem rhas_l_l (w : World) : Calls Tryz.prog 133 #[.string ⟨#[108]⟩, .int .u8 108] w fun e w' => e = .returned (.bool true) ∧ w' = w := by
  go_enter Tryz.func133, Tryz.ntmps133
  go_wp2_with fail
  refine wp_loop_rounds 1 ?_
  rw [rounds_succ]
  go_wp2_with fail
  go_ret
  exact ⟨rfl, rfl⟩
theorem rhas_l_c (w : World) : Calls Tryz.prog 133 #[.string ⟨#[108]⟩, .int .u8 99] w fun e w' => e = .returned (.bool false) ∧ w' = w := by
  go_enter Tryz.func133, Tryz.ntmps133
  go_wp2_with fail
  refine wp_loop_rounds 2 ?_
  rw [rounds_succ]
  go_wp2_with fail
  rw [rounds_succ]
  go_wp2_with fail
  go_ret
  exact ⟨rfl, rfl⟩
theorem rhas_l_k (w : World) : Calls Tryz.prog 133 #[.string ⟨#[108]⟩, .int .u8 107] w fun e w' => e = .returned (.bool false) ∧ w' = w := by
  go_enter Tryz.func133, Tryz.ntmps133
  go_wp2_with fail
  refine wp_loop_rounds 2 ?_
  rw [rounds_succ]
  go_wp2_with fail
  rw [rounds_succ]
  go_wp2_with fail
  go_ret
  exact ⟨rfl, rfl⟩
theorem rhas_l_o (w : World) : Calls Tryz.prog 133 #[.string ⟨#[108]⟩, .int .u8 111] w fun e w' => e = .returned (.bool false) ∧ w' = w := by
  go_enter Tryz.func133, Tryz.ntmps133
  go_wp2_with fail
  refine wp_loop_rounds 2 ?_
  rw [rounds_succ]
  go_wp2_with fail
  rw [rounds_succ]
  go_wp2_with fail
  go_ret
  exact ⟨rfl, rfl⟩
theorem rhas_tk_t (w : World) : Calls Tryz.prog 133 #[.string ⟨#[116, 107]⟩, .int .u8 116] w fun e w' => e = .returned (.bool true) ∧ w' = w := by
  go_enter Tryz.func133, Tryz.ntmps133
  go_wp2_with fail
  refine wp_loop_rounds 1 ?_
  rw [rounds_succ]
  go_wp2_with fail
  go_ret
  exact ⟨rfl, rfl⟩
theorem rhas_tk_l (w : World) : Calls Tryz.prog 133 #[.string ⟨#[116, 107]⟩, .int .u8 108] w fun e w' => e = .returned (.bool false) ∧ w' = w := by
  go_enter Tryz.func133, Tryz.ntmps133
  go_wp2_with fail
  refine wp_loop_rounds 3 ?_
  rw [rounds_succ]
  go_wp2_with fail
  rw [rounds_succ]
  go_wp2_with fail
  rw [rounds_succ]
  go_wp2_with fail
  go_ret
  exact ⟨rfl, rfl⟩
theorem rhas_tk_c (w : World) : Calls Tryz.prog 133 #[.string ⟨#[116, 107]⟩, .int .u8 99] w fun e w' => e = .returned (.bool false) ∧ w' = w := by
  go_enter Tryz.func133, Tryz.ntmps133
  go_wp2_with fail
  refine wp_loop_rounds 3 ?_
  rw [rounds_succ]
  go_wp2_with fail
  rw [rounds_succ]
  go_wp2_with fail
  rw [rounds_succ]
  go_wp2_with fail
  go_ret
  exact ⟨rfl, rfl⟩
theorem rhas_tk_k (w : World) : Calls Tryz.prog 133 #[.string ⟨#[116, 107]⟩, .int .u8 107] w fun e w' => e = .returned (.bool true) ∧ w' = w := by
  go_enter Tryz.func133, Tryz.ntmps133
  go_wp2_with fail
  refine wp_loop_rounds 2 ?_
  rw [rounds_succ]
  go_wp2_with fail
  rw [rounds_succ]
  go_wp2_with fail
  go_ret
  exact ⟨rfl, rfl⟩
theorem rhas_tk_o (w : World) : Calls Tryz.prog 133 #[.string ⟨#[116, 107]⟩, .int .u8 111] w fun e w' => e = .returned (.bool false) ∧ w' = w := by
  go_enter Tryz.func133, Tryz.ntmps133
  go_wp2_with fail
  refine wp_loop_rounds 3 ?_
  rw [rounds_succ]
  go_wp2_with fail
  rw [rounds_succ]
  go_wp2_with fail
  rw [rounds_succ]
  go_wp2_with fail
  go_ret
  exact ⟨rfl, rfl⟩
theorem rhas_tc_t (w : World) : Calls Tryz.prog 133 #[.string ⟨#[116, 99]⟩, .int .u8 116] w fun e w' => e = .returned (.bool true) ∧ w' = w := by
  go_enter Tryz.func133, Tryz.ntmps133
  go_wp2_with fail
  refine wp_loop_rounds 1 ?_
  rw [rounds_succ]
  go_wp2_with fail
  go_ret
  exact ⟨rfl, rfl⟩
theorem rhas_tc_l (w : World) : Calls Tryz.prog 133 #[.string ⟨#[116, 99]⟩, .int .u8 108] w fun e w' => e = .returned (.bool false) ∧ w' = w := by
  go_enter Tryz.func133, Tryz.ntmps133
  go_wp2_with fail
  refine wp_loop_rounds 3 ?_
  rw [rounds_succ]
  go_wp2_with fail
  rw [rounds_succ]
  go_wp2_with fail
  rw [rounds_succ]
  go_wp2_with fail
  go_ret
  exact ⟨rfl, rfl⟩
theorem rhas_tc_c (w : World) : Calls Tryz.prog 133 #[.string ⟨#[116, 99]⟩, .int .u8 99] w fun e w' => e = .returned (.bool true) ∧ w' = w := by
  go_enter Tryz.func133, Tryz.ntmps133
  go_wp2_with fail
  refine wp_loop_rounds 2 ?_
  rw [rounds_succ]
  go_wp2_with fail
  rw [rounds_succ]
  go_wp2_with fail
  go_ret
  exact ⟨rfl, rfl⟩
theorem rhas_tc_k (w : World) : Calls Tryz.prog 133 #[.string ⟨#[116, 99]⟩, .int .u8 107] w fun e w' => e = .returned (.bool false) ∧ w' = w := by
  go_enter Tryz.func133, Tryz.ntmps133
  go_wp2_with fail
  refine wp_loop_rounds 3 ?_
  rw [rounds_succ]
  go_wp2_with fail
  rw [rounds_succ]
  go_wp2_with fail
  rw [rounds_succ]
  go_wp2_with fail
  go_ret
  exact ⟨rfl, rfl⟩
theorem rhas_tc_o (w : World) : Calls Tryz.prog 133 #[.string ⟨#[116, 99]⟩, .int .u8 111] w fun e w' => e = .returned (.bool false) ∧ w' = w := by
  go_enter Tryz.func133, Tryz.ntmps133
  go_wp2_with fail
  refine wp_loop_rounds 3 ?_
  rw [rounds_succ]
  go_wp2_with fail
  rw [rounds_succ]
  go_wp2_with fail
  rw [rounds_succ]
  go_wp2_with fail
  go_ret
  exact ⟨rfl, rfl⟩
theorem rhas_e_t (w : World) : Calls Tryz.prog 133 #[.string ⟨#[]⟩, .int .u8 116] w fun e w' => e = .returned (.bool false) ∧ w' = w := by
  go_enter Tryz.func133, Tryz.ntmps133
  go_wp2_with fail
  refine wp_loop_rounds 1 ?_
  rw [rounds_succ]
  go_wp2_with fail
  go_ret
  exact ⟨rfl, rfl⟩
theorem rhas_e_l (w : World) : Calls Tryz.prog 133 #[.string ⟨#[]⟩, .int .u8 108] w fun e w' => e = .returned (.bool false) ∧ w' = w := by
  go_enter Tryz.func133, Tryz.ntmps133
  go_wp2_with fail
  refine wp_loop_rounds 1 ?_
  rw [rounds_succ]
  go_wp2_with fail
  go_ret
  exact ⟨rfl, rfl⟩
theorem rhas_e_c (w : World) : Calls Tryz.prog 133 #[.string ⟨#[]⟩, .int .u8 99] w fun e w' => e = .returned (.bool false) ∧ w' = w := by
  go_enter Tryz.func133, Tryz.ntmps133
  go_wp2_with fail
  refine wp_loop_rounds 1 ?_
  rw [rounds_succ]
  go_wp2_with fail
  go_ret
  exact ⟨rfl, rfl⟩
theorem rhas_e_k (w : World) : Calls Tryz.prog 133 #[.string ⟨#[]⟩, .int .u8 107] w fun e w' => e = .returned (.bool false) ∧ w' = w := by
  go_enter Tryz.func133, Tryz.ntmps133
  go_wp2_with fail
  refine wp_loop_rounds 1 ?_
  rw [rounds_succ]
  go_wp2_with fail
  go_ret
  exact ⟨rfl, rfl⟩
theorem rhas_e_o (w : World) : Calls Tryz.prog 133 #[.string ⟨#[]⟩, .int .u8 111] w fun e w' => e = .returned (.bool false) ∧ w' = w := by
  go_enter Tryz.func133, Tryz.ntmps133
  go_wp2_with fail
  refine wp_loop_rounds 1 ?_
  rw [rounds_succ]
  go_wp2_with fail
  go_ret
  exact ⟨rfl, rfl⟩
end Go.Proofs.YteeiacfddjhhkaaGreatDoor
namespace Go.Proofs.YteeiacfddjhhkaaGreatDoor
open Go.RowKit
set_option maxRecDepth 100000

def refMay (lo t l c k o : Bool) (m : PMsg) : Bool :=
  withinB m.g 1 1048576 && (withinB m.node 0 255 && ((if lo then m.from_ == 0 && withinB m.to_ 1 3 else m.to_ == 0 && withinB m.from_ 1 3) && ((if t then withinB m.try_ 0 1048576 else m.try_ == 0) &&
    ((if l then withinB m.low 1 1048577 else m.low == 0) && ((if c then withinB m.code 1 99 else m.code == 0) && ((if k then !decide (m.ticket < 0) && !decide (8 < m.told.length) else m.ticket == 0 && m.told.length == 0) && (if o then checkO m.ops == 0 else m.ops.length == 0)))))))
theorem may_ref_1 (m : PMsg) (h : m.kind = 1) : mayM m = refMay true true true false false true m := by
  obtain ⟨kind, from_, to_, g, node, try_, low, code, ticket, told, ops⟩ := m
  simp only at h
  subst h
  have ho : ops.length = 0 → checkO ops = 0 := fun h => by
    have : ops = [] := List.eq_nil_of_length_eq_zero h
    subst this
    rfl
  rw [Bool.eq_iff_iff]
  simp [mayM, refMay, knownM, wayM, bareM, nothingM, withinB, -List.length_eq_zero_iff]
  try omega
theorem may_ref_4 (m : PMsg) (h : m.kind = 4) : mayM m = refMay true true true false false true m := by
  obtain ⟨kind, from_, to_, g, node, try_, low, code, ticket, told, ops⟩ := m
  simp only at h
  subst h
  have ho : ops.length = 0 → checkO ops = 0 := fun h => by
    have : ops = [] := List.eq_nil_of_length_eq_zero h
    subst this
    rfl
  rw [Bool.eq_iff_iff]
  simp [mayM, refMay, knownM, wayM, bareM, nothingM, withinB, -List.length_eq_zero_iff]
  try omega
theorem may_ref_2 (m : PMsg) (h : m.kind = 2) : mayM m = refMay true true true false false false m := by
  obtain ⟨kind, from_, to_, g, node, try_, low, code, ticket, told, ops⟩ := m
  simp only at h
  subst h
  have ho : ops.length = 0 → checkO ops = 0 := fun h => by
    have : ops = [] := List.eq_nil_of_length_eq_zero h
    subst this
    rfl
  rw [Bool.eq_iff_iff]
  simp [mayM, refMay, knownM, wayM, bareM, nothingM, withinB, -List.length_eq_zero_iff]
  try omega
theorem may_ref_3 (m : PMsg) (h : m.kind = 3) : mayM m = refMay true false true false false false m := by
  obtain ⟨kind, from_, to_, g, node, try_, low, code, ticket, told, ops⟩ := m
  simp only at h
  subst h
  have ho : ops.length = 0 → checkO ops = 0 := fun h => by
    have : ops = [] := List.eq_nil_of_length_eq_zero h
    subst this
    rfl
  rw [Bool.eq_iff_iff]
  simp [mayM, refMay, knownM, wayM, bareM, nothingM, withinB, -List.length_eq_zero_iff]
  try omega
theorem may_ref_11 (m : PMsg) (h : m.kind = 11) : mayM m = refMay false true false false true false m := by
  obtain ⟨kind, from_, to_, g, node, try_, low, code, ticket, told, ops⟩ := m
  simp only at h
  subst h
  have ho : ops.length = 0 → checkO ops = 0 := fun h => by
    have : ops = [] := List.eq_nil_of_length_eq_zero h
    subst this
    rfl
  rw [Bool.eq_iff_iff]
  simp [mayM, refMay, knownM, wayM, bareM, nothingM, withinB, -List.length_eq_zero_iff]
  try omega
theorem may_ref_12 (m : PMsg) (h : m.kind = 12) : mayM m = refMay false true false true false false m := by
  obtain ⟨kind, from_, to_, g, node, try_, low, code, ticket, told, ops⟩ := m
  simp only at h
  subst h
  have ho : ops.length = 0 → checkO ops = 0 := fun h => by
    have : ops = [] := List.eq_nil_of_length_eq_zero h
    subst this
    rfl
  rw [Bool.eq_iff_iff]
  simp [mayM, refMay, knownM, wayM, bareM, nothingM, withinB, -List.length_eq_zero_iff]
  try omega
theorem may_ref_14 (m : PMsg) (h : m.kind = 14) : mayM m = refMay false true false true false false m := by
  obtain ⟨kind, from_, to_, g, node, try_, low, code, ticket, told, ops⟩ := m
  simp only at h
  subst h
  have ho : ops.length = 0 → checkO ops = 0 := fun h => by
    have : ops = [] := List.eq_nil_of_length_eq_zero h
    subst this
    rfl
  rw [Bool.eq_iff_iff]
  simp [mayM, refMay, knownM, wayM, bareM, nothingM, withinB, -List.length_eq_zero_iff]
  try omega
theorem may_ref_13 (m : PMsg) (h : m.kind = 13) : mayM m = refMay false false false false false false m := by
  obtain ⟨kind, from_, to_, g, node, try_, low, code, ticket, told, ops⟩ := m
  simp only at h
  subst h
  have ho : ops.length = 0 → checkO ops = 0 := fun h => by
    have : ops = [] := List.eq_nil_of_length_eq_zero h
    subst this
    rfl
  rw [Bool.eq_iff_iff]
  simp [mayM, refMay, knownM, wayM, bareM, nothingM, withinB, -List.length_eq_zero_iff]
  try omega
theorem may_ref_15 (m : PMsg) (h : m.kind = 15) : mayM m = refMay false false false false false false m := by
  obtain ⟨kind, from_, to_, g, node, try_, low, code, ticket, told, ops⟩ := m
  simp only at h
  subst h
  have ho : ops.length = 0 → checkO ops = 0 := fun h => by
    have : ops = [] := List.eq_nil_of_length_eq_zero h
    subst this
    rfl
  rw [Bool.eq_iff_iff]
  simp [mayM, refMay, knownM, wayM, bareM, nothingM, withinB, -List.length_eq_zero_iff]
  try omega
theorem may_ref_16 (m : PMsg) (h : m.kind = 16) : mayM m = refMay false false false false false false m := by
  obtain ⟨kind, from_, to_, g, node, try_, low, code, ticket, told, ops⟩ := m
  simp only at h
  subst h
  have ho : ops.length = 0 → checkO ops = 0 := fun h => by
    have : ops = [] := List.eq_nil_of_length_eq_zero h
    subst this
    rfl
  rw [Bool.eq_iff_iff]
  simp [mayM, refMay, knownM, wayM, bareM, nothingM, withinB, -List.length_eq_zero_iff]
  try omega
theorem may_ref_no (m : PMsg) (h1 : (m.kind == 1) = false) (h4 : (m.kind == 4) = false) (h2 : (m.kind == 2) = false) (h3 : (m.kind == 3) = false) (h11 : (m.kind == 11) = false) (h12 : (m.kind == 12) = false) (h14 : (m.kind == 14) = false) (h13 : (m.kind == 13) = false) (h15 : (m.kind == 15) = false) (h16 : (m.kind == 16) = false) : mayM m = false := by
  have : knownM m = false := by
    simp at *
    simp [knownM, withinB]
    omega
  simp [mayM, this]
set_option maxHeartbeats 2000000 in
theorem rmay_tlo_true (m : PMsg) (A : Option Addr) (c : Nat) (B : Option Addr) (d : Nat) (w : World) (hr : RowAt w B (opsC m.ops)) (hl : m.ops.length ≤ 1000000) (hl2 : m.told.length ≤ 1000000) (hk : ∀ o ∈ m.ops, o.key.size ≤ 1000000)
    (hHas : ∀ w, Calls Tryz.prog 131 #[.int .i64 m.kind] w fun e w' => e = .returned (.string ⟨#[116, 108, 111]⟩) ∧ w' = w) (hlo : m.kind < 10) (hM : mayM m = refMay true true true false false true m) :
    Calls Tryz.prog 105 #[.agg (msgA m A c B d)] w fun e w' => e = .returned (.bool (mayM m)) ∧ Below w.heap.size w w' := by
  obtain ⟨kind, from_, to_, g, node, try_, low, code, ticket, told, ops⟩ := m
  simp only at hHas hlo hl hl2 hr
  simp only [refMay, if_true, if_false, Bool.false_eq_true] at hM
  have hMM := Lib.hid hM
  have hHH := Lib.hid hHas
  have hK := Lib.hid hk
  have hR := Lib.hid hr
  have k1 : decide (kind < 10) = true := by simp; omega
  have k2 : decide (10 < kind) = false := by simp; omega
  have hB0 := Lib.hid (below_alloc (Below.refl _ w) (.cells #[.int .i64 kind, .int .i64 from_, .int .i64 to_, .int .i64 g, .int .i64 node, .int .i64 try_, .int .i64 low, .int .i64 code, .int .i64 ticket, .slice A told.length c, .slice B ops.length d] 31))
  clear hM hHas hk hr hlo
  show Calls Tryz.prog 105 #[.agg #[.int .i64 kind, .int .i64 from_, .int .i64 to_, .int .i64 g, .int .i64 node, .int .i64 try_, .int .i64 low, .int .i64 code, .int .i64 ticket, .slice A told.length c, .slice B ops.length d]] w _
  go_enter Tryz.func105, Tryz.ntmps105
  go_wp2_with fail
  refine (hHH.out _).mono ?_
  rintro e w1 ⟨rfl, rfl⟩
  go_wp2_with fail
  refine (rin_any g 1 1048576 _).mono ?_
  rintro e w1 ⟨rfl, rfl⟩
  cases e1 : withinB g 1 1048576
  · go_wp2_with fail
    go_ret
    exact ⟨ret_bool (by rw [hMM.out]; simp [e1]), hB0.out⟩
  go_wp2_with fail
  refine (rin_any node 0 255 _).mono ?_
  rintro e w1 ⟨rfl, rfl⟩
  cases e2 : withinB node 0 255
  · go_wp2_with fail
    go_ret
    exact ⟨ret_bool (by rw [hMM.out]; simp [e1, e2]), hB0.out⟩
  by_cases hz : from_ = 0
  case neg =>
    have dz : (from_ != 0) = true := by simpa using hz
    have dz2 : (from_ == 0) = false := by simpa using hz
    clear hz
    go_wp2_with fail
    go_ret
    exact ⟨ret_bool (by rw [hMM.out]; simp [e1, e2, dz2]), hB0.out⟩
  subst hz
  go_wp2_with fail
  refine (rin_any to_ 1 3 _).mono ?_
  rintro e w1 ⟨rfl, rfl⟩
  cases e3 : withinB to_ 1 3
  · go_wp2_with fail
    go_ret
    exact ⟨ret_bool (by rw [hMM.out]; simp [e1, e2, e3]), hB0.out⟩
  go_wp2_with fail
  refine (rhas_tlo_t _).mono ?_
  rintro e w1 ⟨rfl, rfl⟩
  go_wp2_with fail
  refine (rin_any try_ 0 1048576 _).mono ?_
  rintro e w1 ⟨rfl, rfl⟩
  cases e_t : withinB try_ 0 1048576
  · go_wp2_with fail
    go_ret
    exact ⟨ret_bool (by rw [hMM.out]; simp [e1, e2, e3, e_t]), hB0.out⟩
  go_wp2_with fail
  refine (rhas_tlo_t _).mono ?_
  rintro e w1 ⟨rfl, rfl⟩
  go_wp2_with fail
  refine (rhas_tlo_l _).mono ?_
  rintro e w1 ⟨rfl, rfl⟩
  go_wp2_with fail
  refine (rin_any low 1 1048577 _).mono ?_
  rintro e w1 ⟨rfl, rfl⟩
  cases e_l : withinB low 1 1048577
  · go_wp2_with fail
    go_ret
    exact ⟨ret_bool (by rw [hMM.out]; simp [e1, e2, e3, e_t, e_l]), hB0.out⟩
  go_wp2_with fail
  refine (rhas_tlo_l _).mono ?_
  rintro e w1 ⟨rfl, rfl⟩
  go_wp2_with fail
  refine (rhas_tlo_c _).mono ?_
  rintro e w1 ⟨rfl, rfl⟩
  go_wp2_with fail
  refine (rhas_tlo_c _).mono ?_
  rintro e w1 ⟨rfl, rfl⟩
  by_cases hz : code = 0
  case neg =>
    have dz : (code != 0) = true := by simpa using hz
    have dz2 : (code == 0) = false := by simpa using hz
    clear hz
    go_wp2_with fail
    go_ret
    exact ⟨ret_bool (by rw [hMM.out]; simp [e1, e2, e3, e_t, e_l, dz2]), hB0.out⟩
  subst hz
  go_wp2_with fail
  refine (rhas_tlo_k _).mono ?_
  rintro e w1 ⟨rfl, rfl⟩
  go_wp2_with fail
  refine (rhas_tlo_k _).mono ?_
  rintro e w1 ⟨rfl, rfl⟩
  by_cases hz : ticket = 0
  case neg =>
    have dz : (ticket != 0) = true := by simpa using hz
    have dz2 : (ticket == 0) = false := by simpa using hz
    clear hz
    go_wp2_with fail
    go_ret
    exact ⟨ret_bool (by rw [hMM.out]; simp [e1, e2, e3, e_t, e_l, dz2]), hB0.out⟩
  subst hz
  by_cases hz : told.length = 0
  case neg =>
    have dz : decide ((0 : Int) < told.length) = true := decide_eq_true (by omega)
    have dz3 : decide (0 < told.length) = true := decide_eq_true (by omega)
    have dz4 : 0 < told.length := by omega
    have dz2 : (told.length == 0) = false := by simpa using hz
    clear hz
    go_wp2_with fail
    go_ret
    exact ⟨ret_bool (by rw [hMM.out]; simp [e1, e2, e3, e_t, e_l, dz2]), hB0.out⟩
  have ek4 : (told.length == 0) = true := by simpa using hz
  have ek5 : decide ((0 : Int) < told.length) = false := decide_eq_false (by omega)
  have ek6 : decide (0 < told.length) = false := decide_eq_false (by omega)
  have ek7 : ¬ 0 < told.length := by omega
  clear hz
  go_wp2_with fail
  refine (rhas_tlo_o _).mono ?_
  rintro e w1 ⟨rfl, rfl⟩
  go_wp2_with fail
  refine (rcheck_any B d ops _ (hR.out.below hB0.out) hl hK.out).mono ?_
  rintro e w2 ⟨rfl, hB2_⟩
  have hB2 := Lib.hid (bnext hB0.out hB2_)
  clear hB2_
  by_cases hz : checkO ops = 0
  · rw [hz]
    have hMF : Hid (mayM ⟨kind, 0, to_, g, node, try_, low, 0, 0, told, ops⟩ = true) := Lib.hid (by rw [hMM.out]; simp [hz, e1, e2, e3, e_t, e_l, ek4])
    go_wp2_with fail
    go_ret
    exact ⟨ret_bool hMF.out.symm, hB2.out⟩
  · have dz : (checkO ops == 0) = false := by simpa using hz
    have hMF : Hid (mayM ⟨kind, 0, to_, g, node, try_, low, 0, 0, told, ops⟩ = false) := Lib.hid (by rw [hMM.out]; simp [dz])
    clear hz
    go_wp2_with fail
    refine (rhas_tlo_o _).mono ?_
    rintro e w1 ⟨rfl, rfl⟩
    go_wp2_with fail
    go_ret
    exact ⟨ret_bool hMF.out.symm, hB2.out⟩
set_option maxHeartbeats 2000000 in
theorem rmay_tl_true (m : PMsg) (A : Option Addr) (c : Nat) (B : Option Addr) (d : Nat) (w : World) (hr : RowAt w B (opsC m.ops)) (hl : m.ops.length ≤ 1000000) (hl2 : m.told.length ≤ 1000000) (hk : ∀ o ∈ m.ops, o.key.size ≤ 1000000)
    (hHas : ∀ w, Calls Tryz.prog 131 #[.int .i64 m.kind] w fun e w' => e = .returned (.string ⟨#[116, 108]⟩) ∧ w' = w) (hlo : m.kind < 10) (hM : mayM m = refMay true true true false false false m) :
    Calls Tryz.prog 105 #[.agg (msgA m A c B d)] w fun e w' => e = .returned (.bool (mayM m)) ∧ Below w.heap.size w w' := by
  obtain ⟨kind, from_, to_, g, node, try_, low, code, ticket, told, ops⟩ := m
  simp only at hHas hlo hl hl2 hr
  simp only [refMay, if_true, if_false, Bool.false_eq_true] at hM
  have hMM := Lib.hid hM
  have hHH := Lib.hid hHas
  have hK := Lib.hid hk
  have hR := Lib.hid hr
  have k1 : decide (kind < 10) = true := by simp; omega
  have k2 : decide (10 < kind) = false := by simp; omega
  have hB0 := Lib.hid (below_alloc (Below.refl _ w) (.cells #[.int .i64 kind, .int .i64 from_, .int .i64 to_, .int .i64 g, .int .i64 node, .int .i64 try_, .int .i64 low, .int .i64 code, .int .i64 ticket, .slice A told.length c, .slice B ops.length d] 31))
  clear hM hHas hk hr hlo
  show Calls Tryz.prog 105 #[.agg #[.int .i64 kind, .int .i64 from_, .int .i64 to_, .int .i64 g, .int .i64 node, .int .i64 try_, .int .i64 low, .int .i64 code, .int .i64 ticket, .slice A told.length c, .slice B ops.length d]] w _
  go_enter Tryz.func105, Tryz.ntmps105
  go_wp2_with fail
  refine (hHH.out _).mono ?_
  rintro e w1 ⟨rfl, rfl⟩
  go_wp2_with fail
  refine (rin_any g 1 1048576 _).mono ?_
  rintro e w1 ⟨rfl, rfl⟩
  cases e1 : withinB g 1 1048576
  · go_wp2_with fail
    go_ret
    exact ⟨ret_bool (by rw [hMM.out]; simp [e1]), hB0.out⟩
  go_wp2_with fail
  refine (rin_any node 0 255 _).mono ?_
  rintro e w1 ⟨rfl, rfl⟩
  cases e2 : withinB node 0 255
  · go_wp2_with fail
    go_ret
    exact ⟨ret_bool (by rw [hMM.out]; simp [e1, e2]), hB0.out⟩
  by_cases hz : from_ = 0
  case neg =>
    have dz : (from_ != 0) = true := by simpa using hz
    have dz2 : (from_ == 0) = false := by simpa using hz
    clear hz
    go_wp2_with fail
    go_ret
    exact ⟨ret_bool (by rw [hMM.out]; simp [e1, e2, dz2]), hB0.out⟩
  subst hz
  go_wp2_with fail
  refine (rin_any to_ 1 3 _).mono ?_
  rintro e w1 ⟨rfl, rfl⟩
  cases e3 : withinB to_ 1 3
  · go_wp2_with fail
    go_ret
    exact ⟨ret_bool (by rw [hMM.out]; simp [e1, e2, e3]), hB0.out⟩
  go_wp2_with fail
  refine (rhas_tl_t _).mono ?_
  rintro e w1 ⟨rfl, rfl⟩
  go_wp2_with fail
  refine (rin_any try_ 0 1048576 _).mono ?_
  rintro e w1 ⟨rfl, rfl⟩
  cases e_t : withinB try_ 0 1048576
  · go_wp2_with fail
    go_ret
    exact ⟨ret_bool (by rw [hMM.out]; simp [e1, e2, e3, e_t]), hB0.out⟩
  go_wp2_with fail
  refine (rhas_tl_t _).mono ?_
  rintro e w1 ⟨rfl, rfl⟩
  go_wp2_with fail
  refine (rhas_tl_l _).mono ?_
  rintro e w1 ⟨rfl, rfl⟩
  go_wp2_with fail
  refine (rin_any low 1 1048577 _).mono ?_
  rintro e w1 ⟨rfl, rfl⟩
  cases e_l : withinB low 1 1048577
  · go_wp2_with fail
    go_ret
    exact ⟨ret_bool (by rw [hMM.out]; simp [e1, e2, e3, e_t, e_l]), hB0.out⟩
  go_wp2_with fail
  refine (rhas_tl_l _).mono ?_
  rintro e w1 ⟨rfl, rfl⟩
  go_wp2_with fail
  refine (rhas_tl_c _).mono ?_
  rintro e w1 ⟨rfl, rfl⟩
  go_wp2_with fail
  refine (rhas_tl_c _).mono ?_
  rintro e w1 ⟨rfl, rfl⟩
  by_cases hz : code = 0
  case neg =>
    have dz : (code != 0) = true := by simpa using hz
    have dz2 : (code == 0) = false := by simpa using hz
    clear hz
    go_wp2_with fail
    go_ret
    exact ⟨ret_bool (by rw [hMM.out]; simp [e1, e2, e3, e_t, e_l, dz2]), hB0.out⟩
  subst hz
  go_wp2_with fail
  refine (rhas_tl_k _).mono ?_
  rintro e w1 ⟨rfl, rfl⟩
  go_wp2_with fail
  refine (rhas_tl_k _).mono ?_
  rintro e w1 ⟨rfl, rfl⟩
  by_cases hz : ticket = 0
  case neg =>
    have dz : (ticket != 0) = true := by simpa using hz
    have dz2 : (ticket == 0) = false := by simpa using hz
    clear hz
    go_wp2_with fail
    go_ret
    exact ⟨ret_bool (by rw [hMM.out]; simp [e1, e2, e3, e_t, e_l, dz2]), hB0.out⟩
  subst hz
  by_cases hz : told.length = 0
  case neg =>
    have dz : decide ((0 : Int) < told.length) = true := decide_eq_true (by omega)
    have dz3 : decide (0 < told.length) = true := decide_eq_true (by omega)
    have dz4 : 0 < told.length := by omega
    have dz2 : (told.length == 0) = false := by simpa using hz
    clear hz
    go_wp2_with fail
    go_ret
    exact ⟨ret_bool (by rw [hMM.out]; simp [e1, e2, e3, e_t, e_l, dz2]), hB0.out⟩
  have ek4 : (told.length == 0) = true := by simpa using hz
  have ek5 : decide ((0 : Int) < told.length) = false := decide_eq_false (by omega)
  have ek6 : decide (0 < told.length) = false := decide_eq_false (by omega)
  have ek7 : ¬ 0 < told.length := by omega
  clear hz
  go_wp2_with fail
  refine (rhas_tl_o _).mono ?_
  rintro e w1 ⟨rfl, rfl⟩
  go_wp2_with fail
  refine (rhas_tl_o _).mono ?_
  rintro e w1 ⟨rfl, rfl⟩
  by_cases hz : ops.length = 0
  · have dz : ((ops.length : Int) == 0) = true := by rw [hz]; rfl
    have hMF : Hid (mayM ⟨kind, 0, to_, g, node, try_, low, 0, 0, told, ops⟩ = true) := Lib.hid (by rw [hMM.out, show (ops.length == 0) = true by rw [hz]; rfl]; simp [e1, e2, e3, e_t, e_l, ek4])
    clear hz
    go_wp2_with fail
    go_ret
    exact ⟨ret_bool hMF.out.symm, hB0.out⟩
  · have dz : ((ops.length : Int) == 0) = false := beq_eq_false_iff_ne.2 (by omega)
    have dz5 : ¬ ops.length = 0 := hz
    have dz6 : ¬ ops = [] := fun h => hz (by rw [h]; rfl)
    have hMF : Hid (mayM ⟨kind, 0, to_, g, node, try_, low, 0, 0, told, ops⟩ = false) := Lib.hid (by rw [hMM.out, show (ops.length == 0) = false from beq_eq_false_iff_ne.2 hz]; simp)
    clear hz
    go_wp2_with fail
    go_ret
    exact ⟨ret_bool hMF.out.symm, hB0.out⟩
set_option maxHeartbeats 2000000 in
theorem rmay_l_true (m : PMsg) (A : Option Addr) (c : Nat) (B : Option Addr) (d : Nat) (w : World) (hr : RowAt w B (opsC m.ops)) (hl : m.ops.length ≤ 1000000) (hl2 : m.told.length ≤ 1000000) (hk : ∀ o ∈ m.ops, o.key.size ≤ 1000000)
    (hHas : ∀ w, Calls Tryz.prog 131 #[.int .i64 m.kind] w fun e w' => e = .returned (.string ⟨#[108]⟩) ∧ w' = w) (hlo : m.kind < 10) (hM : mayM m = refMay true false true false false false m) :
    Calls Tryz.prog 105 #[.agg (msgA m A c B d)] w fun e w' => e = .returned (.bool (mayM m)) ∧ Below w.heap.size w w' := by
  obtain ⟨kind, from_, to_, g, node, try_, low, code, ticket, told, ops⟩ := m
  simp only at hHas hlo hl hl2 hr
  simp only [refMay, if_true, if_false, Bool.false_eq_true] at hM
  have hMM := Lib.hid hM
  have hHH := Lib.hid hHas
  have hK := Lib.hid hk
  have hR := Lib.hid hr
  have k1 : decide (kind < 10) = true := by simp; omega
  have k2 : decide (10 < kind) = false := by simp; omega
  have hB0 := Lib.hid (below_alloc (Below.refl _ w) (.cells #[.int .i64 kind, .int .i64 from_, .int .i64 to_, .int .i64 g, .int .i64 node, .int .i64 try_, .int .i64 low, .int .i64 code, .int .i64 ticket, .slice A told.length c, .slice B ops.length d] 31))
  clear hM hHas hk hr hlo
  show Calls Tryz.prog 105 #[.agg #[.int .i64 kind, .int .i64 from_, .int .i64 to_, .int .i64 g, .int .i64 node, .int .i64 try_, .int .i64 low, .int .i64 code, .int .i64 ticket, .slice A told.length c, .slice B ops.length d]] w _
  go_enter Tryz.func105, Tryz.ntmps105
  go_wp2_with fail
  refine (hHH.out _).mono ?_
  rintro e w1 ⟨rfl, rfl⟩
  go_wp2_with fail
  refine (rin_any g 1 1048576 _).mono ?_
  rintro e w1 ⟨rfl, rfl⟩
  cases e1 : withinB g 1 1048576
  · go_wp2_with fail
    go_ret
    exact ⟨ret_bool (by rw [hMM.out]; simp [e1]), hB0.out⟩
  go_wp2_with fail
  refine (rin_any node 0 255 _).mono ?_
  rintro e w1 ⟨rfl, rfl⟩
  cases e2 : withinB node 0 255
  · go_wp2_with fail
    go_ret
    exact ⟨ret_bool (by rw [hMM.out]; simp [e1, e2]), hB0.out⟩
  by_cases hz : from_ = 0
  case neg =>
    have dz : (from_ != 0) = true := by simpa using hz
    have dz2 : (from_ == 0) = false := by simpa using hz
    clear hz
    go_wp2_with fail
    go_ret
    exact ⟨ret_bool (by rw [hMM.out]; simp [e1, e2, dz2]), hB0.out⟩
  subst hz
  go_wp2_with fail
  refine (rin_any to_ 1 3 _).mono ?_
  rintro e w1 ⟨rfl, rfl⟩
  cases e3 : withinB to_ 1 3
  · go_wp2_with fail
    go_ret
    exact ⟨ret_bool (by rw [hMM.out]; simp [e1, e2, e3]), hB0.out⟩
  go_wp2_with fail
  refine (rhas_l_t _).mono ?_
  rintro e w1 ⟨rfl, rfl⟩
  go_wp2_with fail
  refine (rhas_l_t _).mono ?_
  rintro e w1 ⟨rfl, rfl⟩
  by_cases hz : try_ = 0
  case neg =>
    have dz : (try_ != 0) = true := by simpa using hz
    have dz2 : (try_ == 0) = false := by simpa using hz
    clear hz
    go_wp2_with fail
    go_ret
    exact ⟨ret_bool (by rw [hMM.out]; simp [e1, e2, e3, dz2]), hB0.out⟩
  subst hz
  go_wp2_with fail
  refine (rhas_l_l _).mono ?_
  rintro e w1 ⟨rfl, rfl⟩
  go_wp2_with fail
  refine (rin_any low 1 1048577 _).mono ?_
  rintro e w1 ⟨rfl, rfl⟩
  cases e_l : withinB low 1 1048577
  · go_wp2_with fail
    go_ret
    exact ⟨ret_bool (by rw [hMM.out]; simp [e1, e2, e3, e_l]), hB0.out⟩
  go_wp2_with fail
  refine (rhas_l_l _).mono ?_
  rintro e w1 ⟨rfl, rfl⟩
  go_wp2_with fail
  refine (rhas_l_c _).mono ?_
  rintro e w1 ⟨rfl, rfl⟩
  go_wp2_with fail
  refine (rhas_l_c _).mono ?_
  rintro e w1 ⟨rfl, rfl⟩
  by_cases hz : code = 0
  case neg =>
    have dz : (code != 0) = true := by simpa using hz
    have dz2 : (code == 0) = false := by simpa using hz
    clear hz
    go_wp2_with fail
    go_ret
    exact ⟨ret_bool (by rw [hMM.out]; simp [e1, e2, e3, e_l, dz2]), hB0.out⟩
  subst hz
  go_wp2_with fail
  refine (rhas_l_k _).mono ?_
  rintro e w1 ⟨rfl, rfl⟩
  go_wp2_with fail
  refine (rhas_l_k _).mono ?_
  rintro e w1 ⟨rfl, rfl⟩
  by_cases hz : ticket = 0
  case neg =>
    have dz : (ticket != 0) = true := by simpa using hz
    have dz2 : (ticket == 0) = false := by simpa using hz
    clear hz
    go_wp2_with fail
    go_ret
    exact ⟨ret_bool (by rw [hMM.out]; simp [e1, e2, e3, e_l, dz2]), hB0.out⟩
  subst hz
  by_cases hz : told.length = 0
  case neg =>
    have dz : decide ((0 : Int) < told.length) = true := decide_eq_true (by omega)
    have dz3 : decide (0 < told.length) = true := decide_eq_true (by omega)
    have dz4 : 0 < told.length := by omega
    have dz2 : (told.length == 0) = false := by simpa using hz
    clear hz
    go_wp2_with fail
    go_ret
    exact ⟨ret_bool (by rw [hMM.out]; simp [e1, e2, e3, e_l, dz2]), hB0.out⟩
  have ek4 : (told.length == 0) = true := by simpa using hz
  have ek5 : decide ((0 : Int) < told.length) = false := decide_eq_false (by omega)
  have ek6 : decide (0 < told.length) = false := decide_eq_false (by omega)
  have ek7 : ¬ 0 < told.length := by omega
  clear hz
  go_wp2_with fail
  refine (rhas_l_o _).mono ?_
  rintro e w1 ⟨rfl, rfl⟩
  go_wp2_with fail
  refine (rhas_l_o _).mono ?_
  rintro e w1 ⟨rfl, rfl⟩
  by_cases hz : ops.length = 0
  · have dz : ((ops.length : Int) == 0) = true := by rw [hz]; rfl
    have hMF : Hid (mayM ⟨kind, 0, to_, g, node, 0, low, 0, 0, told, ops⟩ = true) := Lib.hid (by rw [hMM.out, show (ops.length == 0) = true by rw [hz]; rfl]; simp [e1, e2, e3, e_l, ek4])
    clear hz
    go_wp2_with fail
    go_ret
    exact ⟨ret_bool hMF.out.symm, hB0.out⟩
  · have dz : ((ops.length : Int) == 0) = false := beq_eq_false_iff_ne.2 (by omega)
    have dz5 : ¬ ops.length = 0 := hz
    have dz6 : ¬ ops = [] := fun h => hz (by rw [h]; rfl)
    have hMF : Hid (mayM ⟨kind, 0, to_, g, node, 0, low, 0, 0, told, ops⟩ = false) := Lib.hid (by rw [hMM.out, show (ops.length == 0) = false from beq_eq_false_iff_ne.2 hz]; simp)
    clear hz
    go_wp2_with fail
    go_ret
    exact ⟨ret_bool hMF.out.symm, hB0.out⟩
set_option maxHeartbeats 2000000 in
theorem rmay_tk_false (m : PMsg) (A : Option Addr) (c : Nat) (B : Option Addr) (d : Nat) (w : World) (hr : RowAt w B (opsC m.ops)) (hl : m.ops.length ≤ 1000000) (hl2 : m.told.length ≤ 1000000) (hk : ∀ o ∈ m.ops, o.key.size ≤ 1000000)
    (hHas : ∀ w, Calls Tryz.prog 131 #[.int .i64 m.kind] w fun e w' => e = .returned (.string ⟨#[116, 107]⟩) ∧ w' = w) (hlo : 10 < m.kind) (hM : mayM m = refMay false true false false true false m) :
    Calls Tryz.prog 105 #[.agg (msgA m A c B d)] w fun e w' => e = .returned (.bool (mayM m)) ∧ Below w.heap.size w w' := by
  obtain ⟨kind, from_, to_, g, node, try_, low, code, ticket, told, ops⟩ := m
  simp only at hHas hlo hl hl2 hr
  simp only [refMay, if_true, if_false, Bool.false_eq_true] at hM
  have hMM := Lib.hid hM
  have hHH := Lib.hid hHas
  have hK := Lib.hid hk
  have hR := Lib.hid hr
  have k1 : decide (kind < 10) = false := by simp; omega
  have k2 : decide (10 < kind) = true := by simp; omega
  have hB0 := Lib.hid (below_alloc (Below.refl _ w) (.cells #[.int .i64 kind, .int .i64 from_, .int .i64 to_, .int .i64 g, .int .i64 node, .int .i64 try_, .int .i64 low, .int .i64 code, .int .i64 ticket, .slice A told.length c, .slice B ops.length d] 31))
  clear hM hHas hk hr hlo
  show Calls Tryz.prog 105 #[.agg #[.int .i64 kind, .int .i64 from_, .int .i64 to_, .int .i64 g, .int .i64 node, .int .i64 try_, .int .i64 low, .int .i64 code, .int .i64 ticket, .slice A told.length c, .slice B ops.length d]] w _
  go_enter Tryz.func105, Tryz.ntmps105
  go_wp2_with fail
  refine (hHH.out _).mono ?_
  rintro e w1 ⟨rfl, rfl⟩
  go_wp2_with fail
  refine (rin_any g 1 1048576 _).mono ?_
  rintro e w1 ⟨rfl, rfl⟩
  cases e1 : withinB g 1 1048576
  · go_wp2_with fail
    go_ret
    exact ⟨ret_bool (by rw [hMM.out]; simp [e1]), hB0.out⟩
  go_wp2_with fail
  refine (rin_any node 0 255 _).mono ?_
  rintro e w1 ⟨rfl, rfl⟩
  cases e2 : withinB node 0 255
  · go_wp2_with fail
    go_ret
    exact ⟨ret_bool (by rw [hMM.out]; simp [e1, e2]), hB0.out⟩
  by_cases hz : to_ = 0
  case neg =>
    have dz : (to_ != 0) = true := by simpa using hz
    have dz2 : (to_ == 0) = false := by simpa using hz
    clear hz
    go_wp2_with fail
    go_ret
    exact ⟨ret_bool (by rw [hMM.out]; simp [e1, e2, dz2]), hB0.out⟩
  subst hz
  go_wp2_with fail
  refine (rin_any from_ 1 3 _).mono ?_
  rintro e w1 ⟨rfl, rfl⟩
  cases e3 : withinB from_ 1 3
  · go_wp2_with fail
    go_ret
    exact ⟨ret_bool (by rw [hMM.out]; simp [e1, e2, e3]), hB0.out⟩
  go_wp2_with fail
  refine (rhas_tk_t _).mono ?_
  rintro e w1 ⟨rfl, rfl⟩
  go_wp2_with fail
  refine (rin_any try_ 0 1048576 _).mono ?_
  rintro e w1 ⟨rfl, rfl⟩
  cases e_t : withinB try_ 0 1048576
  · go_wp2_with fail
    go_ret
    exact ⟨ret_bool (by rw [hMM.out]; simp [e1, e2, e3, e_t]), hB0.out⟩
  go_wp2_with fail
  refine (rhas_tk_t _).mono ?_
  rintro e w1 ⟨rfl, rfl⟩
  go_wp2_with fail
  refine (rhas_tk_l _).mono ?_
  rintro e w1 ⟨rfl, rfl⟩
  go_wp2_with fail
  refine (rhas_tk_l _).mono ?_
  rintro e w1 ⟨rfl, rfl⟩
  by_cases hz : low = 0
  case neg =>
    have dz : (low != 0) = true := by simpa using hz
    have dz2 : (low == 0) = false := by simpa using hz
    clear hz
    go_wp2_with fail
    go_ret
    exact ⟨ret_bool (by rw [hMM.out]; simp [e1, e2, e3, e_t, dz2]), hB0.out⟩
  subst hz
  go_wp2_with fail
  refine (rhas_tk_c _).mono ?_
  rintro e w1 ⟨rfl, rfl⟩
  go_wp2_with fail
  refine (rhas_tk_c _).mono ?_
  rintro e w1 ⟨rfl, rfl⟩
  by_cases hz : code = 0
  case neg =>
    have dz : (code != 0) = true := by simpa using hz
    have dz2 : (code == 0) = false := by simpa using hz
    clear hz
    go_wp2_with fail
    go_ret
    exact ⟨ret_bool (by rw [hMM.out]; simp [e1, e2, e3, e_t, dz2]), hB0.out⟩
  subst hz
  go_wp2_with fail
  refine (rhas_tk_k _).mono ?_
  rintro e w1 ⟨rfl, rfl⟩
  by_cases hz : ticket < 0
  case pos =>
    have dz : decide (ticket < 0) = true := by simpa using hz
    clear hz
    go_wp2_with fail
    go_ret
    exact ⟨ret_bool (by rw [hMM.out]; simp [e1, e2, e3, e_t, dz]), hB0.out⟩
  have ek1 : decide (ticket < 0) = false := by simpa using hz
  clear hz
  by_cases hz : 8 < told.length
  case pos =>
    have dz : decide ((8 : Int) < told.length) = true := by simp; omega
    have dz2 : decide (8 < told.length) = true := by simpa using hz
    clear hz
    go_wp2_with fail
    go_ret
    exact ⟨ret_bool (by rw [hMM.out]; simp [e1, e2, e3, e_t, ek1, dz2]), hB0.out⟩
  have ek2 : decide (8 < told.length) = false := by simpa using hz
  have ek3 : decide ((8 : Int) < told.length) = false := by simp; omega
  clear hz
  go_wp2_with fail
  refine (rhas_tk_k _).mono ?_
  rintro e w1 ⟨rfl, rfl⟩
  go_wp2_with fail
  refine (rhas_tk_o _).mono ?_
  rintro e w1 ⟨rfl, rfl⟩
  go_wp2_with fail
  refine (rhas_tk_o _).mono ?_
  rintro e w1 ⟨rfl, rfl⟩
  by_cases hz : ops.length = 0
  · have dz : ((ops.length : Int) == 0) = true := by rw [hz]; rfl
    have hMF : Hid (mayM ⟨kind, from_, 0, g, node, try_, 0, 0, ticket, told, ops⟩ = true) := Lib.hid (by rw [hMM.out, show (ops.length == 0) = true by rw [hz]; rfl]; simp [e1, e2, e3, e_t, ek1, ek2])
    clear hz
    go_wp2_with fail
    go_ret
    exact ⟨ret_bool hMF.out.symm, hB0.out⟩
  · have dz : ((ops.length : Int) == 0) = false := beq_eq_false_iff_ne.2 (by omega)
    have dz5 : ¬ ops.length = 0 := hz
    have dz6 : ¬ ops = [] := fun h => hz (by rw [h]; rfl)
    have hMF : Hid (mayM ⟨kind, from_, 0, g, node, try_, 0, 0, ticket, told, ops⟩ = false) := Lib.hid (by rw [hMM.out, show (ops.length == 0) = false from beq_eq_false_iff_ne.2 hz]; simp)
    clear hz
    go_wp2_with fail
    go_ret
    exact ⟨ret_bool hMF.out.symm, hB0.out⟩
set_option maxHeartbeats 2000000 in
theorem rmay_tc_false (m : PMsg) (A : Option Addr) (c : Nat) (B : Option Addr) (d : Nat) (w : World) (hr : RowAt w B (opsC m.ops)) (hl : m.ops.length ≤ 1000000) (hl2 : m.told.length ≤ 1000000) (hk : ∀ o ∈ m.ops, o.key.size ≤ 1000000)
    (hHas : ∀ w, Calls Tryz.prog 131 #[.int .i64 m.kind] w fun e w' => e = .returned (.string ⟨#[116, 99]⟩) ∧ w' = w) (hlo : 10 < m.kind) (hM : mayM m = refMay false true false true false false m) :
    Calls Tryz.prog 105 #[.agg (msgA m A c B d)] w fun e w' => e = .returned (.bool (mayM m)) ∧ Below w.heap.size w w' := by
  obtain ⟨kind, from_, to_, g, node, try_, low, code, ticket, told, ops⟩ := m
  simp only at hHas hlo hl hl2 hr
  simp only [refMay, if_true, if_false, Bool.false_eq_true] at hM
  have hMM := Lib.hid hM
  have hHH := Lib.hid hHas
  have hK := Lib.hid hk
  have hR := Lib.hid hr
  have k1 : decide (kind < 10) = false := by simp; omega
  have k2 : decide (10 < kind) = true := by simp; omega
  have hB0 := Lib.hid (below_alloc (Below.refl _ w) (.cells #[.int .i64 kind, .int .i64 from_, .int .i64 to_, .int .i64 g, .int .i64 node, .int .i64 try_, .int .i64 low, .int .i64 code, .int .i64 ticket, .slice A told.length c, .slice B ops.length d] 31))
  clear hM hHas hk hr hlo
  show Calls Tryz.prog 105 #[.agg #[.int .i64 kind, .int .i64 from_, .int .i64 to_, .int .i64 g, .int .i64 node, .int .i64 try_, .int .i64 low, .int .i64 code, .int .i64 ticket, .slice A told.length c, .slice B ops.length d]] w _
  go_enter Tryz.func105, Tryz.ntmps105
  go_wp2_with fail
  refine (hHH.out _).mono ?_
  rintro e w1 ⟨rfl, rfl⟩
  go_wp2_with fail
  refine (rin_any g 1 1048576 _).mono ?_
  rintro e w1 ⟨rfl, rfl⟩
  cases e1 : withinB g 1 1048576
  · go_wp2_with fail
    go_ret
    exact ⟨ret_bool (by rw [hMM.out]; simp [e1]), hB0.out⟩
  go_wp2_with fail
  refine (rin_any node 0 255 _).mono ?_
  rintro e w1 ⟨rfl, rfl⟩
  cases e2 : withinB node 0 255
  · go_wp2_with fail
    go_ret
    exact ⟨ret_bool (by rw [hMM.out]; simp [e1, e2]), hB0.out⟩
  by_cases hz : to_ = 0
  case neg =>
    have dz : (to_ != 0) = true := by simpa using hz
    have dz2 : (to_ == 0) = false := by simpa using hz
    clear hz
    go_wp2_with fail
    go_ret
    exact ⟨ret_bool (by rw [hMM.out]; simp [e1, e2, dz2]), hB0.out⟩
  subst hz
  go_wp2_with fail
  refine (rin_any from_ 1 3 _).mono ?_
  rintro e w1 ⟨rfl, rfl⟩
  cases e3 : withinB from_ 1 3
  · go_wp2_with fail
    go_ret
    exact ⟨ret_bool (by rw [hMM.out]; simp [e1, e2, e3]), hB0.out⟩
  go_wp2_with fail
  refine (rhas_tc_t _).mono ?_
  rintro e w1 ⟨rfl, rfl⟩
  go_wp2_with fail
  refine (rin_any try_ 0 1048576 _).mono ?_
  rintro e w1 ⟨rfl, rfl⟩
  cases e_t : withinB try_ 0 1048576
  · go_wp2_with fail
    go_ret
    exact ⟨ret_bool (by rw [hMM.out]; simp [e1, e2, e3, e_t]), hB0.out⟩
  go_wp2_with fail
  refine (rhas_tc_t _).mono ?_
  rintro e w1 ⟨rfl, rfl⟩
  go_wp2_with fail
  refine (rhas_tc_l _).mono ?_
  rintro e w1 ⟨rfl, rfl⟩
  go_wp2_with fail
  refine (rhas_tc_l _).mono ?_
  rintro e w1 ⟨rfl, rfl⟩
  by_cases hz : low = 0
  case neg =>
    have dz : (low != 0) = true := by simpa using hz
    have dz2 : (low == 0) = false := by simpa using hz
    clear hz
    go_wp2_with fail
    go_ret
    exact ⟨ret_bool (by rw [hMM.out]; simp [e1, e2, e3, e_t, dz2]), hB0.out⟩
  subst hz
  go_wp2_with fail
  refine (rhas_tc_c _).mono ?_
  rintro e w1 ⟨rfl, rfl⟩
  go_wp2_with fail
  refine (rin_any code 1 99 _).mono ?_
  rintro e w1 ⟨rfl, rfl⟩
  cases e_c : withinB code 1 99
  · go_wp2_with fail
    go_ret
    exact ⟨ret_bool (by rw [hMM.out]; simp [e1, e2, e3, e_t, e_c]), hB0.out⟩
  go_wp2_with fail
  refine (rhas_tc_c _).mono ?_
  rintro e w1 ⟨rfl, rfl⟩
  go_wp2_with fail
  refine (rhas_tc_k _).mono ?_
  rintro e w1 ⟨rfl, rfl⟩
  go_wp2_with fail
  refine (rhas_tc_k _).mono ?_
  rintro e w1 ⟨rfl, rfl⟩
  by_cases hz : ticket = 0
  case neg =>
    have dz : (ticket != 0) = true := by simpa using hz
    have dz2 : (ticket == 0) = false := by simpa using hz
    clear hz
    go_wp2_with fail
    go_ret
    exact ⟨ret_bool (by rw [hMM.out]; simp [e1, e2, e3, e_t, e_c, dz2]), hB0.out⟩
  subst hz
  by_cases hz : told.length = 0
  case neg =>
    have dz : decide ((0 : Int) < told.length) = true := decide_eq_true (by omega)
    have dz3 : decide (0 < told.length) = true := decide_eq_true (by omega)
    have dz4 : 0 < told.length := by omega
    have dz2 : (told.length == 0) = false := by simpa using hz
    clear hz
    go_wp2_with fail
    go_ret
    exact ⟨ret_bool (by rw [hMM.out]; simp [e1, e2, e3, e_t, e_c, dz2]), hB0.out⟩
  have ek4 : (told.length == 0) = true := by simpa using hz
  have ek5 : decide ((0 : Int) < told.length) = false := decide_eq_false (by omega)
  have ek6 : decide (0 < told.length) = false := decide_eq_false (by omega)
  have ek7 : ¬ 0 < told.length := by omega
  clear hz
  go_wp2_with fail
  refine (rhas_tc_o _).mono ?_
  rintro e w1 ⟨rfl, rfl⟩
  go_wp2_with fail
  refine (rhas_tc_o _).mono ?_
  rintro e w1 ⟨rfl, rfl⟩
  by_cases hz : ops.length = 0
  · have dz : ((ops.length : Int) == 0) = true := by rw [hz]; rfl
    have hMF : Hid (mayM ⟨kind, from_, 0, g, node, try_, 0, code, 0, told, ops⟩ = true) := Lib.hid (by rw [hMM.out, show (ops.length == 0) = true by rw [hz]; rfl]; simp [e1, e2, e3, e_t, e_c, ek4])
    clear hz
    go_wp2_with fail
    go_ret
    exact ⟨ret_bool hMF.out.symm, hB0.out⟩
  · have dz : ((ops.length : Int) == 0) = false := beq_eq_false_iff_ne.2 (by omega)
    have dz5 : ¬ ops.length = 0 := hz
    have dz6 : ¬ ops = [] := fun h => hz (by rw [h]; rfl)
    have hMF : Hid (mayM ⟨kind, from_, 0, g, node, try_, 0, code, 0, told, ops⟩ = false) := Lib.hid (by rw [hMM.out, show (ops.length == 0) = false from beq_eq_false_iff_ne.2 hz]; simp)
    clear hz
    go_wp2_with fail
    go_ret
    exact ⟨ret_bool hMF.out.symm, hB0.out⟩
set_option maxHeartbeats 2000000 in
theorem rmay_e_false (m : PMsg) (A : Option Addr) (c : Nat) (B : Option Addr) (d : Nat) (w : World) (hr : RowAt w B (opsC m.ops)) (hl : m.ops.length ≤ 1000000) (hl2 : m.told.length ≤ 1000000) (hk : ∀ o ∈ m.ops, o.key.size ≤ 1000000)
    (hHas : ∀ w, Calls Tryz.prog 131 #[.int .i64 m.kind] w fun e w' => e = .returned (.string ⟨#[]⟩) ∧ w' = w) (hlo : 10 < m.kind) (hM : mayM m = refMay false false false false false false m) :
    Calls Tryz.prog 105 #[.agg (msgA m A c B d)] w fun e w' => e = .returned (.bool (mayM m)) ∧ Below w.heap.size w w' := by
  obtain ⟨kind, from_, to_, g, node, try_, low, code, ticket, told, ops⟩ := m
  simp only at hHas hlo hl hl2 hr
  simp only [refMay, if_true, if_false, Bool.false_eq_true] at hM
  have hMM := Lib.hid hM
  have hHH := Lib.hid hHas
  have hK := Lib.hid hk
  have hR := Lib.hid hr
  have k1 : decide (kind < 10) = false := by simp; omega
  have k2 : decide (10 < kind) = true := by simp; omega
  have hB0 := Lib.hid (below_alloc (Below.refl _ w) (.cells #[.int .i64 kind, .int .i64 from_, .int .i64 to_, .int .i64 g, .int .i64 node, .int .i64 try_, .int .i64 low, .int .i64 code, .int .i64 ticket, .slice A told.length c, .slice B ops.length d] 31))
  clear hM hHas hk hr hlo
  show Calls Tryz.prog 105 #[.agg #[.int .i64 kind, .int .i64 from_, .int .i64 to_, .int .i64 g, .int .i64 node, .int .i64 try_, .int .i64 low, .int .i64 code, .int .i64 ticket, .slice A told.length c, .slice B ops.length d]] w _
  go_enter Tryz.func105, Tryz.ntmps105
  go_wp2_with fail
  refine (hHH.out _).mono ?_
  rintro e w1 ⟨rfl, rfl⟩
  go_wp2_with fail
  refine (rin_any g 1 1048576 _).mono ?_
  rintro e w1 ⟨rfl, rfl⟩
  cases e1 : withinB g 1 1048576
  · go_wp2_with fail
    go_ret
    exact ⟨ret_bool (by rw [hMM.out]; simp [e1]), hB0.out⟩
  go_wp2_with fail
  refine (rin_any node 0 255 _).mono ?_
  rintro e w1 ⟨rfl, rfl⟩
  cases e2 : withinB node 0 255
  · go_wp2_with fail
    go_ret
    exact ⟨ret_bool (by rw [hMM.out]; simp [e1, e2]), hB0.out⟩
  by_cases hz : to_ = 0
  case neg =>
    have dz : (to_ != 0) = true := by simpa using hz
    have dz2 : (to_ == 0) = false := by simpa using hz
    clear hz
    go_wp2_with fail
    go_ret
    exact ⟨ret_bool (by rw [hMM.out]; simp [e1, e2, dz2]), hB0.out⟩
  subst hz
  go_wp2_with fail
  refine (rin_any from_ 1 3 _).mono ?_
  rintro e w1 ⟨rfl, rfl⟩
  cases e3 : withinB from_ 1 3
  · go_wp2_with fail
    go_ret
    exact ⟨ret_bool (by rw [hMM.out]; simp [e1, e2, e3]), hB0.out⟩
  go_wp2_with fail
  refine (rhas_e_t _).mono ?_
  rintro e w1 ⟨rfl, rfl⟩
  go_wp2_with fail
  refine (rhas_e_t _).mono ?_
  rintro e w1 ⟨rfl, rfl⟩
  by_cases hz : try_ = 0
  case neg =>
    have dz : (try_ != 0) = true := by simpa using hz
    have dz2 : (try_ == 0) = false := by simpa using hz
    clear hz
    go_wp2_with fail
    go_ret
    exact ⟨ret_bool (by rw [hMM.out]; simp [e1, e2, e3, dz2]), hB0.out⟩
  subst hz
  go_wp2_with fail
  refine (rhas_e_l _).mono ?_
  rintro e w1 ⟨rfl, rfl⟩
  go_wp2_with fail
  refine (rhas_e_l _).mono ?_
  rintro e w1 ⟨rfl, rfl⟩
  by_cases hz : low = 0
  case neg =>
    have dz : (low != 0) = true := by simpa using hz
    have dz2 : (low == 0) = false := by simpa using hz
    clear hz
    go_wp2_with fail
    go_ret
    exact ⟨ret_bool (by rw [hMM.out]; simp [e1, e2, e3, dz2]), hB0.out⟩
  subst hz
  go_wp2_with fail
  refine (rhas_e_c _).mono ?_
  rintro e w1 ⟨rfl, rfl⟩
  go_wp2_with fail
  refine (rhas_e_c _).mono ?_
  rintro e w1 ⟨rfl, rfl⟩
  by_cases hz : code = 0
  case neg =>
    have dz : (code != 0) = true := by simpa using hz
    have dz2 : (code == 0) = false := by simpa using hz
    clear hz
    go_wp2_with fail
    go_ret
    exact ⟨ret_bool (by rw [hMM.out]; simp [e1, e2, e3, dz2]), hB0.out⟩
  subst hz
  go_wp2_with fail
  refine (rhas_e_k _).mono ?_
  rintro e w1 ⟨rfl, rfl⟩
  go_wp2_with fail
  refine (rhas_e_k _).mono ?_
  rintro e w1 ⟨rfl, rfl⟩
  by_cases hz : ticket = 0
  case neg =>
    have dz : (ticket != 0) = true := by simpa using hz
    have dz2 : (ticket == 0) = false := by simpa using hz
    clear hz
    go_wp2_with fail
    go_ret
    exact ⟨ret_bool (by rw [hMM.out]; simp [e1, e2, e3, dz2]), hB0.out⟩
  subst hz
  by_cases hz : told.length = 0
  case neg =>
    have dz : decide ((0 : Int) < told.length) = true := decide_eq_true (by omega)
    have dz3 : decide (0 < told.length) = true := decide_eq_true (by omega)
    have dz4 : 0 < told.length := by omega
    have dz2 : (told.length == 0) = false := by simpa using hz
    clear hz
    go_wp2_with fail
    go_ret
    exact ⟨ret_bool (by rw [hMM.out]; simp [e1, e2, e3, dz2]), hB0.out⟩
  have ek4 : (told.length == 0) = true := by simpa using hz
  have ek5 : decide ((0 : Int) < told.length) = false := decide_eq_false (by omega)
  have ek6 : decide (0 < told.length) = false := decide_eq_false (by omega)
  have ek7 : ¬ 0 < told.length := by omega
  clear hz
  go_wp2_with fail
  refine (rhas_e_o _).mono ?_
  rintro e w1 ⟨rfl, rfl⟩
  go_wp2_with fail
  refine (rhas_e_o _).mono ?_
  rintro e w1 ⟨rfl, rfl⟩
  by_cases hz : ops.length = 0
  · have dz : ((ops.length : Int) == 0) = true := by rw [hz]; rfl
    have hMF : Hid (mayM ⟨kind, from_, 0, g, node, 0, 0, 0, 0, told, ops⟩ = true) := Lib.hid (by rw [hMM.out, show (ops.length == 0) = true by rw [hz]; rfl]; simp [e1, e2, e3, ek4])
    clear hz
    go_wp2_with fail
    go_ret
    exact ⟨ret_bool hMF.out.symm, hB0.out⟩
  · have dz : ((ops.length : Int) == 0) = false := beq_eq_false_iff_ne.2 (by omega)
    have dz5 : ¬ ops.length = 0 := hz
    have dz6 : ¬ ops = [] := fun h => hz (by rw [h]; rfl)
    have hMF : Hid (mayM ⟨kind, from_, 0, g, node, 0, 0, 0, 0, told, ops⟩ = false) := Lib.hid (by rw [hMM.out, show (ops.length == 0) = false from beq_eq_false_iff_ne.2 hz]; simp)
    clear hz
    go_wp2_with fail
    go_ret
    exact ⟨ret_bool hMF.out.symm, hB0.out⟩
end Go.Proofs.YteeiacfddjhhkaaGreatDoor
