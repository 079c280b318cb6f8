/- Messages as plain data and as values; the small questions on them: within, known, way, bare. -/
import Derived.Test.YteeiacfddjhhkaaGreatDoorOpsCheck
import Derived.Test.YteeiacfddjhhkaaGreatDoorAs
namespace Go.Proofs.YteeiacfddjhhkaaGreatDoor
open Go.RowKit
set_option maxRecDepth 100000

theorem opsCheckE_any (A : Option Addr) (c : Nat) (l : List POp) (w : World) (hr : RowAt w A (opsC l)) (hl : l.length ≤ 1000000) (hk : ∀ o ∈ l, o.key.size ≤ 1000000) (hG : GOk w) :
    Calls Tryz.prog 102 #[.slice A l.length c] w fun e w' => e = .returned (.int .i64 (checkO l)) ∧ Below w.heap.size w w' := by
  have hGG := Lib.hid hG
  clear hG
  go_enter Tryz.func102, Tryz.ntmps102
  go_wp2_with fail
  refine (opsCheck_any A c l _ hr hl hk).mono ?_
  rintro e w1 (⟨h0, rfl, hB⟩ | ⟨h0, T, b, rfl, hE, hB⟩)
  · have hB1 := Lib.hid hB
    have hC := Lib.hid h0
    clear hB h0
    go_wp2_with fail
    refine (code_ok _).mono ?_
    rintro e w2 ⟨rfl, hB2⟩
    have hBB := Lib.hid (bnext hB1.out hB2)
    clear hB2
    go_wp2_with fail
    go_ret
    exact ⟨ret_int hC.out.symm, hBB.out⟩
  · have hB1 := Lib.hid hB
    have hC := Lib.hid h0
    have hE' := Lib.hid hE
    have hG2 := Lib.hid (hGG.out.below hB)
    clear hB h0 hE
    go_wp2_with fail
    refine (code_err _ _ _ hE'.out hG2.out).mono ?_
    rintro e w2 ⟨rfl, hB2⟩
    have hBB := Lib.hid (bnext hB1.out hB2)
    clear hB2
    go_wp2_with fail
    go_ret
    exact ⟨rfl, hBB.out⟩

def withinB (n lo hi : Int) : Bool := decide (n ≥ lo) && decide (n ≤ hi)
theorem within_any (n lo hi : Int) (w : World) : Calls Tryz.prog 101 #[.int .i64 n, .int .i64 lo, .int .i64 hi] w fun e w' => e = .returned (.bool (withinB n lo hi)) ∧ w = w' := by
  by_cases h : lo ≤ n
  · have hd : decide (lo ≤ n) = true := decide_eq_true h
    go_enter Tryz.func101, Tryz.ntmps101
    go_wp2_with fail
    go_ret
    exact ⟨ret_bool (by simp [withinB, h]), rfl⟩
  · have hd : decide (lo ≤ n) = false := decide_eq_false h
    go_enter Tryz.func101, Tryz.ntmps101
    go_wp2_with fail
    go_ret
    exact ⟨ret_bool (by simp [withinB]; omega), rfl⟩

/-- A message. -/
structure PMsg where
  kind : Int
  from_ : Int
  to_ : Int
  g : Int
  node : Int
  try_ : Int
  low : Int
  code : Int
  ticket : Int
  told : List Int
  ops : List POp
def msgA (m : PMsg) (A : Option Addr) (c : Nat) (B : Option Addr) (d : Nat) : Array Value := #[.int .i64 m.kind, .int .i64 m.from_, .int .i64 m.to_, .int .i64 m.g, .int .i64 m.node, .int .i64 m.try_, .int .i64 m.low, .int .i64 m.code, .int .i64 m.ticket, .slice A m.told.length c, .slice B m.ops.length d]
def knownM (m : PMsg) : Bool := withinB m.kind 1 4 || withinB m.kind 11 16
def wayM (m : PMsg) : Bool := if m.kind ≤ 4 then m.from_ == 0 && withinB m.to_ 1 3 else m.to_ == 0 && withinB m.from_ 1 3
def bareM (m : PMsg) : PMsg :=
  if m.kind == 1 || m.kind == 4 then { m with try_ := 0, low := 0, ops := [] }
  else if m.kind == 2 then { m with try_ := 0, low := 0 }
  else if m.kind == 3 then { m with low := 0 }
  else if m.kind == 11 then { m with try_ := 0, ticket := 0, told := [] }
  else if m.kind == 12 || m.kind == 14 then { m with try_ := 0, code := 0 }
  else m
def nothingM (m : PMsg) : Bool := m.try_ == 0 && m.low == 0 && m.code == 0 && m.ticket == 0 && m.told.length + m.ops.length == 0
def mayM (m : PMsg) : Bool :=
  knownM m && wayM m && withinB m.g 1 1048576 && withinB m.node 0 255 && withinB m.try_ 0 1048576 && (!decide (m.kind ≤ 4) || withinB m.low 1 1048577) &&
    (!(m.kind == 12 || m.kind == 14) || withinB m.code 1 99) && !decide (m.ticket < 0) && !decide (8 < m.told.length) && checkO m.ops == 0 && nothingM (bareM m)

theorem known_any (m : PMsg) (A : Option Addr) (c : Nat) (B : Option Addr) (d : Nat) (w : World) :
    Calls Tryz.prog 98 #[.agg (msgA m A c B d)] w fun e w' => e = .returned (.bool (knownM m)) ∧ Below w.heap.size w w' := by
  obtain ⟨kind, from_, to_, g, node, try_, low, code, ticket, told, ops⟩ := m
  unfold msgA
  simp only
  have hk : Hid (knownM ⟨kind, from_, to_, g, node, try_, low, code, ticket, told, ops⟩ = (withinB kind 1 4 || withinB kind 11 16)) := Lib.hid rfl
  go_enter Tryz.func98, Tryz.ntmps98
  go_wp2_with fail
  refine (within_any _ _ _ _).mono ?_
  rintro e w1 ⟨rfl, rfl⟩
  cases hw : withinB kind 1 4
  · rw [hw] at hk
    clear hw
    go_wp2_with fail
    refine (within_any _ _ _ _).mono ?_
    rintro e w2 ⟨rfl, rfl⟩
    go_wp2_with fail
    go_ret
    exact ⟨ret_bool (by rw [hk.out]; simp), below_alloc (Below.refl _ _) _⟩
  · rw [hw] at hk
    clear hw
    go_wp2_with fail
    go_ret
    exact ⟨ret_bool (by rw [hk.out]; simp), below_alloc (Below.refl _ _) _⟩
theorem way_any (m : PMsg) (A : Option Addr) (c : Nat) (B : Option Addr) (d : Nat) (w : World) :
    Calls Tryz.prog 99 #[.agg (msgA m A c B d)] w fun e w' => e = .returned (.bool (wayM m)) ∧ Below w.heap.size w w' := by
  obtain ⟨kind, from_, to_, g, node, try_, low, code, ticket, told, ops⟩ := m
  unfold msgA
  simp only
  have hk : Hid (wayM ⟨kind, from_, to_, g, node, try_, low, code, ticket, told, ops⟩ = if kind ≤ 4 then from_ == 0 && withinB to_ 1 3 else to_ == 0 && withinB from_ 1 3) := Lib.hid rfl
  by_cases hk4 : kind ≤ 4
  · rw [if_pos hk4] at hk
    cases hf : (from_ == 0)
    · rw [hf] at hk
      go_enter Tryz.func99, Tryz.ntmps99
      go_wp2_with fail
      go_ret
      exact ⟨ret_bool (by rw [hk.out]; simp), below_alloc (Below.refl _ _) _⟩
    · rw [hf] at hk
      go_enter Tryz.func99, Tryz.ntmps99
      go_wp2_with fail
      refine (within_any _ _ _ _).mono ?_
      rintro e w2 ⟨rfl, rfl⟩
      go_wp2_with fail
      go_ret
      exact ⟨ret_bool (by rw [hk.out]; simp), below_alloc (Below.refl _ _) _⟩
  · rw [if_neg hk4] at hk
    cases hf : (to_ == 0)
    · rw [hf] at hk
      go_enter Tryz.func99, Tryz.ntmps99
      go_wp2_with fail
      go_ret
      exact ⟨ret_bool (by rw [hk.out]; simp), below_alloc (Below.refl _ _) _⟩
    · rw [hf] at hk
      go_enter Tryz.func99, Tryz.ntmps99
      go_wp2_with fail
      refine (within_any _ _ _ _).mono ?_
      rintro e w2 ⟨rfl, rfl⟩
      go_wp2_with fail
      go_ret
      exact ⟨ret_bool (by rw [hk.out]; simp), below_alloc (Below.refl _ _) _⟩

/-- The two slices of a bare message. -/
def bareA (m : PMsg) (A : Option Addr) : Option Addr := if m.kind == 11 then none else A
def bareC (m : PMsg) (c : Nat) : Nat := if m.kind == 11 then 0 else c
def bareP (m : PMsg) (A : Option Addr) : Option Addr := if m.kind == 1 || m.kind == 4 then none else A
def bareQ (m : PMsg) (c : Nat) : Nat := if m.kind == 1 || m.kind == 4 then 0 else c
def BareRet (m : PMsg) (A : Option Addr) (c : Nat) (B : Option Addr) (d : Nat) (w : World) (e : Ending) (w' : World) : Prop := e = .returned (.agg (msgA (bareM m) (bareA m A) (bareC m c) (bareP m B) (bareQ m d))) ∧ Below w.heap.size w w'
theorem bare_any (m : PMsg) (A : Option Addr) (c : Nat) (B : Option Addr) (d : Nat) (w : World) :
    Calls Tryz.prog 103 #[.agg (msgA m A c B d)] w (BareRet m A c B d w) := by
  obtain ⟨kind, from_, to_, g, node, try_, low, code, ticket, told, ops⟩ := m
  show Calls Tryz.prog 103 #[.agg #[.int .i64 kind, .int .i64 from_, .int .i64 to_, .int .i64 g, .int .i64 node, .int .i64 try_, .int .i64 low, .int .i64 code, .int .i64 ticket, .slice A told.length c, .slice B ops.length d]] w _
  go_enter Tryz.func103, Tryz.ntmps103
  go_wp2_with fail
  all_goals
    refine bodyPost_ret (v := .agg (msgA (bareM ⟨kind, from_, to_, g, node, try_, low, code, ticket, told, ops⟩) (bareA ⟨kind, from_, to_, g, node, try_, low, code, ticket, told, ops⟩ A) (bareC ⟨kind, from_, to_, g, node, try_, low, code, ticket, told, ops⟩ c) (bareP ⟨kind, from_, to_, g, node, try_, low, code, ticket, told, ops⟩ B) (bareQ ⟨kind, from_, to_, g, node, try_, low, code, ticket, told, ops⟩ d))) ?_ rfl ⟨rfl, below_alloc (below_alloc (Below.refl _ _) _) _⟩
    simp [results, Tryz.results103, go_sem, msgA, bareM, bareA, bareC, bareP, bareQ, *]
    try (refine ⟨fun h => ?_, fun h => ?_⟩ <;> (subst h; simp_all))
end Go.Proofs.YteeiacfddjhhkaaGreatDoor
