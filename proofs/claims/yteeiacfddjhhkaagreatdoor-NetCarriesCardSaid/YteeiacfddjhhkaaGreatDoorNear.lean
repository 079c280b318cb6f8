/- byroadlaw20.near: a call about packets that there are: the same call, with some numbers. -/
import Derived.Test.YteeiacfddjhhkaaGreatDoorOpen
namespace Go.Proofs.YteeiacfddjhhkaaGreatDoor
open Go.RowKit
set_option maxRecDepth 100000

/-- A call, as it lies. -/
def opA (kind : Int) (near : Bool) (x : MV) (i k : Int) : Array Value := #[.int .i64 kind, .bool near, .int .i64 x.m.kind, .int .i64 x.m.from_, .int .i64 x.m.to_, .int .i64 x.m.g, .int .i64 x.m.node, .int .i64 x.m.try_, .int .i64 x.m.low, .int .i64 x.m.code, .int .i64 x.m.ticket, .slice x.A x.m.told.length x.c, .slice x.B x.m.ops.length x.d, .int .i64 i, .int .i64 k]
theorem near_res (tmps : Array Value) (w : World) (B : Obj) (a0 a1 a2 a3 a4 a5 a6 a7 a8 a9 a10 a11 a12 a13 a14 : Value) (ht : tmps[4]?.getD undef = .pointer (some ⟨w.heap.size + 1, 0, none⟩)) (h1 : ∀ u ∈ [a0, a1, a2, a3, a4, a5, a6, a7, a8, a9, a10, a11, a12, a13, a14], u.oneCell' = true) :
    (results Tryz.f16 tmps).run Tryz.prog ((w.alloc B).alloc (.cells #[a0, a1, a2, a3, a4, a5, a6, a7, a8, a9, a10, a11, a12, a13, a14] 48)) = .ok (.agg #[a0, a1, a2, a3, a4, a5, a6, a7, a8, a9, a10, a11, a12, a13, a14]) ((w.alloc B).alloc (.cells #[a0, a1, a2, a3, a4, a5, a6, a7, a8, a9, a10, a11, a12, a13, a14] 48)) := by
  have hb := heap_alloc_new (w.alloc B) (.cells #[a0, a1, a2, a3, a4, a5, a6, a7, a8, a9, a10, a11, a12, a13, a14] 48)
  rw [World.size_alloc] at hb
  generalize (w.alloc B).alloc (.cells #[a0, a1, a2, a3, a4, a5, a6, a7, a8, a9, a10, a11, a12, a13, a14] 48) = W at *
  have r0 : W.cell? ⟨w.heap.size + 1, 0, none⟩ = some a0 := by rw [block_cell hb]; rfl
  have r1 : W.cell? ⟨w.heap.size + 1, 1, none⟩ = some a1 := by rw [block_cell hb]; rfl
  have r2 : W.cell? ⟨w.heap.size + 1, 2, none⟩ = some a2 := by rw [block_cell hb]; rfl
  have r3 : W.cell? ⟨w.heap.size + 1, 3, none⟩ = some a3 := by rw [block_cell hb]; rfl
  have r4 : W.cell? ⟨w.heap.size + 1, 4, none⟩ = some a4 := by rw [block_cell hb]; rfl
  have r5 : W.cell? ⟨w.heap.size + 1, 5, none⟩ = some a5 := by rw [block_cell hb]; rfl
  have r6 : W.cell? ⟨w.heap.size + 1, 6, none⟩ = some a6 := by rw [block_cell hb]; rfl
  have r7 : W.cell? ⟨w.heap.size + 1, 7, none⟩ = some a7 := by rw [block_cell hb]; rfl
  have r8 : W.cell? ⟨w.heap.size + 1, 8, none⟩ = some a8 := by rw [block_cell hb]; rfl
  have r9 : W.cell? ⟨w.heap.size + 1, 9, none⟩ = some a9 := by rw [block_cell hb]; rfl
  have r10 : W.cell? ⟨w.heap.size + 1, 10, none⟩ = some a10 := by rw [block_cell hb]; rfl
  have r11 : W.cell? ⟨w.heap.size + 1, 11, none⟩ = some a11 := by rw [block_cell hb]; rfl
  have r12 : W.cell? ⟨w.heap.size + 1, 12, none⟩ = some a12 := by rw [block_cell hb]; rfl
  have r13 : W.cell? ⟨w.heap.size + 1, 13, none⟩ = some a13 := by rw [block_cell hb]; rfl
  have r14 : W.cell? ⟨w.heap.size + 1, 14, none⟩ = some a14 := by rw [block_cell hb]; rfl
  simp [results, Tryz.results16, go_sem, ht, *]
theorem near_false (kind : Int) (x : MV) (i k : Int) (n : Nat) (w : World) :
    Calls Tryz.prog 16 #[.agg (opA kind false x i k), .int .i64 n] w fun e w' => ∃ i' k', e = .returned (.agg (opA kind false x i' k')) ∧ Below w.heap.size w w' := by
  simp only [opA]
  go_enter Tryz.func16, Tryz.ntmps16
  go_wp2_with fail
  all_goals exact bodyPost_ret (near_res _ _ _ _ _ _ _ _ _ _ _ _ _ _ _ _ _ _ rfl (by simp [Value.oneCell'])) rfl ⟨_, _, rfl, below_alloc (below_alloc (Below.refl _ _) _) _⟩
theorem near_zero (kind : Int) (x : MV) (i k : Int) (w : World) :
    Calls Tryz.prog 16 #[.agg (opA kind true x i k), .int .i64 0] w fun e w' => ∃ i' k', e = .returned (.agg (opA kind true x i' k')) ∧ Below w.heap.size w w' := by
  simp only [opA]
  go_enter Tryz.func16, Tryz.ntmps16
  go_wp2_with fail
  all_goals exact bodyPost_ret (near_res _ _ _ _ _ _ _ _ _ _ _ _ _ _ _ _ _ _ rfl (by simp [Value.oneCell'])) rfl ⟨_, _, rfl, below_alloc (below_alloc (Below.refl _ _) _) _⟩
theorem near_big (kind : Int) (x : MV) (i k : Int) (n : Nat) (w : World) (hn : n ≠ 0) (h8 : 8 < kind) :
    Calls Tryz.prog 16 #[.agg (opA kind true x i k), .int .i64 n] w fun e w' => ∃ i' k', e = .returned (.agg (opA kind true x i' k')) ∧ Below w.heap.size w w' := by
  simp only [opA]
  have hn0 : ¬ ((n : Int) = 0) := by omega
  have hn1 : ((n : Int) == 0) = false := by simp; omega
  have hn2 : decide ((n : Int) = 0) = false := by simp; omega
  have d8 : decide (8 < kind) = true := by simpa using h8
  clear h8 hn
  go_enter Tryz.func16, Tryz.ntmps16
  go_wp2_with fail
  all_goals exact bodyPost_ret (near_res _ _ _ _ _ _ _ _ _ _ _ _ _ _ _ _ _ _ rfl (by simp [Value.oneCell'])) rfl ⟨_, _, rfl, below_alloc (below_alloc (Below.refl _ _) _) _⟩
theorem near_oth0 (kind : Int) (x : MV) (i k : Int) (n : Nat) (w : World) (hn : n ≠ 0) (hi : ¬ i.tmod n < 0) (h8 : ¬ 8 < kind) (h6 : ¬ kind = 6) :
    Calls Tryz.prog 16 #[.agg (opA kind true x i k), .int .i64 n] w fun e w' => ∃ i' k', e = .returned (.agg (opA kind true x i' k')) ∧ Below w.heap.size w w' := by
  simp only [opA]
  have hn0 : ¬ ((n : Int) = 0) := by omega
  have hn1 : ((n : Int) == 0) = false := by simp; omega
  have hn2 : decide ((n : Int) = 0) = false := by simp; omega
  have d8 : decide (8 < kind) = false := by simpa using h8
  have d6 : (kind == 6) = false := by simpa using h6
  have di : decide (i.tmod n < 0) = false := by simpa using hi
  clear hi h8 h6 hn
  go_enter Tryz.func16, Tryz.ntmps16
  go_wp2_with fail
  all_goals exact bodyPost_ret (near_res _ _ _ _ _ _ _ _ _ _ _ _ _ _ _ _ _ _ rfl (by simp [Value.oneCell'])) rfl ⟨_, _, rfl, below_alloc (below_alloc (Below.refl _ _) _) _⟩
theorem near_six0 (kind : Int) (x : MV) (i k : Int) (n : Nat) (w : World) (hn : n ≠ 0) (hi : ¬ i.tmod n < 0) (h6 : kind = 6) :
    Calls Tryz.prog 16 #[.agg (opA kind true x i k), .int .i64 n] w fun e w' => ∃ i' k', e = .returned (.agg (opA kind true x i' k')) ∧ Below w.heap.size w w' := by
  subst h6
  simp only [opA]
  have hn0 : ¬ ((n : Int) = 0) := by omega
  have hn1 : ((n : Int) == 0) = false := by simp; omega
  have hn2 : decide ((n : Int) = 0) = false := by simp; omega
  have di : decide (i.tmod n < 0) = false := by simpa using hi
  clear hi hn
  go_enter Tryz.func16, Tryz.ntmps16
  go_wp2_with fail
  all_goals exact bodyPost_ret (near_res _ _ _ _ _ _ _ _ _ _ _ _ _ _ _ _ _ _ rfl (by simp [Value.oneCell'])) rfl ⟨_, _, rfl, below_alloc (below_alloc (Below.refl _ _) _) _⟩
theorem near_oth1 (kind : Int) (x : MV) (i k : Int) (n : Nat) (w : World) (hn : n ≠ 0) (hi : i.tmod n < 0) (h8 : ¬ 8 < kind) (h6 : ¬ kind = 6) :
    Calls Tryz.prog 16 #[.agg (opA kind true x i k), .int .i64 n] w fun e w' => ∃ i' k', e = .returned (.agg (opA kind true x i' k')) ∧ Below w.heap.size w w' := by
  simp only [opA]
  have hn0 : ¬ ((n : Int) = 0) := by omega
  have hn1 : ((n : Int) == 0) = false := by simp; omega
  have hn2 : decide ((n : Int) = 0) = false := by simp; omega
  have d8 : decide (8 < kind) = false := by simpa using h8
  have d6 : (kind == 6) = false := by simpa using h6
  have di : decide (i.tmod n < 0) = true := by simpa using hi
  clear hi h8 h6 hn
  go_enter Tryz.func16, Tryz.ntmps16
  go_wp2_with fail
  all_goals exact bodyPost_ret (near_res _ _ _ _ _ _ _ _ _ _ _ _ _ _ _ _ _ _ rfl (by simp [Value.oneCell'])) rfl ⟨_, _, rfl, below_alloc (below_alloc (Below.refl _ _) _) _⟩
theorem near_six1 (kind : Int) (x : MV) (i k : Int) (n : Nat) (w : World) (hn : n ≠ 0) (hi : i.tmod n < 0) (h6 : kind = 6) :
    Calls Tryz.prog 16 #[.agg (opA kind true x i k), .int .i64 n] w fun e w' => ∃ i' k', e = .returned (.agg (opA kind true x i' k')) ∧ Below w.heap.size w w' := by
  subst h6
  simp only [opA]
  have hn0 : ¬ ((n : Int) = 0) := by omega
  have hn1 : ((n : Int) == 0) = false := by simp; omega
  have hn2 : decide ((n : Int) = 0) = false := by simp; omega
  have di : decide (i.tmod n < 0) = true := by simpa using hi
  clear hi hn
  go_enter Tryz.func16, Tryz.ntmps16
  go_wp2_with fail
  all_goals exact bodyPost_ret (near_res _ _ _ _ _ _ _ _ _ _ _ _ _ _ _ _ _ _ rfl (by simp [Value.oneCell'])) rfl ⟨_, _, rfl, below_alloc (below_alloc (Below.refl _ _) _) _⟩
theorem near_any (kind : Int) (near : Bool) (x : MV) (i k : Int) (n : Nat) (w : World) :
    Calls Tryz.prog 16 #[.agg (opA kind near x i k), .int .i64 n] w fun e w' => ∃ i' k', e = .returned (.agg (opA kind near x i' k')) ∧ Below w.heap.size w w' := by
  cases near
  · exact near_false kind x i k n w
  · by_cases hn : n = 0
    · subst hn
      exact near_zero kind x i k w
    · by_cases h8 : 8 < kind
      · exact near_big kind x i k n w hn h8
      · by_cases hi : i.tmod n < 0 <;> by_cases h6 : kind = 6
        · exact near_six1 kind x i k n w hn hi h6
        · exact near_oth1 kind x i k n w hn hi h8 h6
        · exact near_six0 kind x i k n w hn hi h6
        · exact near_oth0 kind x i k n w hn hi h8 h6
end Go.Proofs.YteeiacfddjhhkaaGreatDoor
