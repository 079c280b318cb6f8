/- byroadlaw20.step: one call, of both nets: true. -/
import Derived.Test.YteeiacfddjhhkaaGreatDoorPSt
import Derived.Test.YteeiacfddjhhkaaGreatDoorSame
import Derived.Test.YteeiacfddjhhkaaGreatDoorOpen2
import Derived.OrdersHeld
namespace Go.Proofs.YteeiacfddjhhkaaGreatDoor
open Go.RowKit
set_option maxRecDepth 100000
variable {cz : Cuts}
set_option maxHeartbeats 16000000 in
theorem step_any (W w : World) (p q : Nat) (most : Int) (ks : List PK) (kind : Int) (near : Bool) (x : MV) (i kk : Int) (hG_ : GOk W) (hM_ : InM W x) (hB_ : Below W.heap.size W w) (hN_ : NetAt cz w p most ks) (hR_ : RefAt cz w q most ks) (hg_ : Good most ks) (hp_ : W.heap.size < p) (hq_ : W.heap.size ≤ q) :
    Calls Tryz.prog 26 #[.pointer (some ⟨p, 0, none⟩), .pointer (some ⟨q, 0, none⟩), .agg (opA kind near x i kk)] w (StepRet W p q most) := by
  have hH := Lib.hid (And.intro hG_ hM_)
  have hI := Lib.hid (St.mk hN_ hR_ hB_)
  have hgd := Lib.hid hg_
  have hp := Lib.hid hp_
  have hq := Lib.hid hq_
  obtain ⟨AR, cR, vsR, hR1, hR2⟩ := hR_
  have hB1 := Lib.hid (below_alloc (Below.refl _ w) (.cells #[.int .i64 kind, .bool near, .int .i64 x.m.kind, .int .i64 x.m.from_, .int .i64 x.m.to_, .int .i64 x.m.g, .int .i64 x.m.node, .int .i64 x.m.try_, .int .i64 x.m.low, .int .i64 x.m.code, .int .i64 x.m.ticket, .slice x.A x.m.told.length x.c, .slice x.B x.m.ops.length x.d, .int .i64 i, .int .i64 kk] 48))
  have hHb1 := Lib.hid (heap_alloc_new w (.cells #[.int .i64 kind, .bool near, .int .i64 x.m.kind, .int .i64 x.m.from_, .int .i64 x.m.to_, .int .i64 x.m.g, .int .i64 x.m.node, .int .i64 x.m.try_, .int .i64 x.m.low, .int .i64 x.m.code, .int .i64 x.m.ticket, .slice x.A x.m.told.length x.c, .slice x.B x.m.ops.length x.d, .int .i64 i, .int .i64 kk] 48))
  have hq1 : Hid ((w.alloc (.cells #[.int .i64 kind, .bool near, .int .i64 x.m.kind, .int .i64 x.m.from_, .int .i64 x.m.to_, .int .i64 x.m.g, .int .i64 x.m.node, .int .i64 x.m.try_, .int .i64 x.m.low, .int .i64 x.m.code, .int .i64 x.m.ticket, .slice x.A x.m.told.length x.c, .slice x.B x.m.ops.length x.d, .int .i64 i, .int .i64 kk] 48)).cell? ⟨q, 1, none⟩ = some (.slice AR ks.length cR)) := Lib.hid (cell_below hB1.out (show w.cell? ⟨q, 1, none⟩ = _ from (block_cell hR1 _).trans rfl))
  have hCut := Lib.hid (fun w hB => Cut_any x W w hM_ hB)
  clear hG_ hM_ hN_ hB_ hg_ hp_ hq_ hR1 hR2
  simp only [opA]
  go_enter Tryz.func26, Tryz.ntmps26
  go_wp2_with fail
  generalize w.alloc (.cells #[.int .i64 kind, .bool near, .int .i64 x.m.kind, .int .i64 x.m.from_, .int .i64 x.m.to_, .int .i64 x.m.g, .int .i64 x.m.node, .int .i64 x.m.try_, .int .i64 x.m.low, .int .i64 x.m.code, .int .i64 x.m.ticket, .slice x.A x.m.told.length x.c, .slice x.B x.m.ops.length x.d, .int .i64 i, .int .i64 kk] 48) = W1 at *
  have hSb : Hid (∀ V : World, Below W1.heap.size W1 V → V.cell? ⟨w.heap.size, 0, none⟩ = some (.int .i64 kind) ∧ V.cell? ⟨w.heap.size, 1, none⟩ = some (.bool near) ∧ V.cell? ⟨w.heap.size, 2, none⟩ = some (.int .i64 x.m.kind) ∧ V.cell? ⟨w.heap.size, 3, none⟩ = some (.int .i64 x.m.from_) ∧ V.cell? ⟨w.heap.size, 4, none⟩ = some (.int .i64 x.m.to_) ∧ V.cell? ⟨w.heap.size, 5, none⟩ = some (.int .i64 x.m.g) ∧ V.cell? ⟨w.heap.size, 6, none⟩ = some (.int .i64 x.m.node) ∧ V.cell? ⟨w.heap.size, 7, none⟩ = some (.int .i64 x.m.try_) ∧ V.cell? ⟨w.heap.size, 8, none⟩ = some (.int .i64 x.m.low) ∧ V.cell? ⟨w.heap.size, 9, none⟩ = some (.int .i64 x.m.code) ∧ V.cell? ⟨w.heap.size, 10, none⟩ = some (.int .i64 x.m.ticket) ∧ V.cell? ⟨w.heap.size, 11, none⟩ = some (.slice x.A x.m.told.length x.c) ∧ V.cell? ⟨w.heap.size, 12, none⟩ = some (.slice x.B x.m.ops.length x.d) ∧ V.cell? ⟨w.heap.size, 13, none⟩ = some (.int .i64 i) ∧ V.cell? ⟨w.heap.size, 14, none⟩ = some (.int .i64 kk) ∧ V.cell? ⟨q, 1, none⟩ = some (.slice AR ks.length cR)) := Lib.hid (fun V hb => by
    have e := block_below hb hHb1.out
    exact ⟨by rw [block_cell e]; rfl, by rw [block_cell e]; rfl, by rw [block_cell e]; rfl, by rw [block_cell e]; rfl, by rw [block_cell e]; rfl, by rw [block_cell e]; rfl, by rw [block_cell e]; rfl, by rw [block_cell e]; rfl, by rw [block_cell e]; rfl, by rw [block_cell e]; rfl, by rw [block_cell e]; rfl, by rw [block_cell e]; rfl, by rw [block_cell e]; rfl, by rw [block_cell e]; rfl, by rw [block_cell e]; rfl, cell_below hb hq1.out⟩)
  have hBd : Hid (Below W1.heap.size W1 W1.drew) := Lib.hid (Below.refl _ W1).drew
  have hBr : Hid (Below w.heap.size w W1.drew) := Lib.hid hB1.out.drew
  refine wp_region_split (S := fun V : World => V.cell? ⟨w.heap.size, 0, none⟩ = some (.int .i64 kind) ∧ V.cell? ⟨w.heap.size, 1, none⟩ = some (.bool near) ∧ V.cell? ⟨w.heap.size, 2, none⟩ = some (.int .i64 x.m.kind) ∧ V.cell? ⟨w.heap.size, 3, none⟩ = some (.int .i64 x.m.from_) ∧ V.cell? ⟨w.heap.size, 4, none⟩ = some (.int .i64 x.m.to_) ∧ V.cell? ⟨w.heap.size, 5, none⟩ = some (.int .i64 x.m.g) ∧ V.cell? ⟨w.heap.size, 6, none⟩ = some (.int .i64 x.m.node) ∧ V.cell? ⟨w.heap.size, 7, none⟩ = some (.int .i64 x.m.try_) ∧ V.cell? ⟨w.heap.size, 8, none⟩ = some (.int .i64 x.m.low) ∧ V.cell? ⟨w.heap.size, 9, none⟩ = some (.int .i64 x.m.code) ∧ V.cell? ⟨w.heap.size, 10, none⟩ = some (.int .i64 x.m.ticket) ∧ V.cell? ⟨w.heap.size, 11, none⟩ = some (.slice x.A x.m.told.length x.c) ∧ V.cell? ⟨w.heap.size, 12, none⟩ = some (.slice x.B x.m.ops.length x.d) ∧ V.cell? ⟨w.heap.size, 13, none⟩ = some (.int .i64 i) ∧ V.cell? ⟨w.heap.size, 14, none⟩ = some (.int .i64 kk) ∧ V.cell? ⟨q, 1, none⟩ = some (.slice AR ks.length cR)) 7 (by kernel_rfl) (by kernel_rfl) (hSb.out _ hBd.out) (fun hS0 => ?_)
  simp only [List.take_succ_cons, List.take_zero, List.drop_succ_cons, List.drop_zero]
  refine wpAnyH_take (i := 0) (v := ?_) rfl (by kernel_rfl) (by kernel_rfl) (by kernel_rfl) (fun _ _ _ h => h) (Or.inl ⟨by rfl, ?_⟩) (by assumption) ?_
  rotate_left
  · intro w' hSw
    obtain ⟨q0, q1, q2, q3, q4, q5, q6, q7, q8, q9, q10, q11, q12, q13, q14, q15⟩ := hSw
    go_simp
    try with_reducible rfl
  try simp only [List.getElem_toArray, List.getElem_cons_succ, List.getElem_cons_zero, Act.put, List.setIfInBounds_toArray, List.set_cons_zero, List.set_cons_succ]
  refine wpAnyH_take (i := 1) (v := ?_) rfl (by kernel_rfl) (by kernel_rfl) (by kernel_rfl) (fun _ _ _ h => h) (Or.inl ⟨by rfl, ?_⟩) (by assumption) ?_
  rotate_left
  · intro w' hSw
    obtain ⟨q0, q1, q2, q3, q4, q5, q6, q7, q8, q9, q10, q11, q12, q13, q14, q15⟩ := hSw
    go_simp
    try with_reducible rfl
  try simp only [List.getElem_toArray, List.getElem_cons_succ, List.getElem_cons_zero, Act.put, List.setIfInBounds_toArray, List.set_cons_zero, List.set_cons_succ]
  refine wpAnyH_take (i := 2) (v := ?_) rfl (by kernel_rfl) (by kernel_rfl) (by kernel_rfl) (fun _ _ _ h => h) (Or.inl ⟨by rfl, ?_⟩) (by assumption) ?_
  rotate_left
  · intro w' hSw
    obtain ⟨q0, q1, q2, q3, q4, q5, q6, q7, q8, q9, q10, q11, q12, q13, q14, q15⟩ := hSw
    go_simp
    try with_reducible rfl
  try simp only [List.getElem_toArray, List.getElem_cons_succ, List.getElem_cons_zero, Act.put, List.setIfInBounds_toArray, List.set_cons_zero, List.set_cons_succ]
  refine wpAnyH_take (i := 3) (v := ?_) rfl (by kernel_rfl) (by kernel_rfl) (by kernel_rfl) (fun _ _ _ h => h) (Or.inl ⟨by rfl, ?_⟩) (by assumption) ?_
  rotate_left
  · intro w' hSw
    obtain ⟨q0, q1, q2, q3, q4, q5, q6, q7, q8, q9, q10, q11, q12, q13, q14, q15⟩ := hSw
    go_simp
    try with_reducible rfl
  try simp only [List.getElem_toArray, List.getElem_cons_succ, List.getElem_cons_zero, Act.put, List.setIfInBounds_toArray, List.set_cons_zero, List.set_cons_succ]
  refine wpAnyH_take (i := 4) (v := ?_) rfl (by kernel_rfl) (by kernel_rfl) (by kernel_rfl) (fun _ _ _ h => h) (Or.inl ⟨by rfl, ?_⟩) (by assumption) ?_
  rotate_left
  · intro w' hSw
    obtain ⟨q0, q1, q2, q3, q4, q5, q6, q7, q8, q9, q10, q11, q12, q13, q14, q15⟩ := hSw
    go_simp
    try with_reducible rfl
  try simp only [List.getElem_toArray, List.getElem_cons_succ, List.getElem_cons_zero, Act.put, List.setIfInBounds_toArray, List.set_cons_zero, List.set_cons_succ]
  refine wpAnyH_take (i := 5) (v := ?_) rfl (by kernel_rfl) (by kernel_rfl) (by kernel_rfl) (fun _ _ _ h => h) (Or.inl ⟨by rfl, ?_⟩) (by assumption) ?_
  rotate_left
  · intro w' hSw
    obtain ⟨q0, q1, q2, q3, q4, q5, q6, q7, q8, q9, q10, q11, q12, q13, q14, q15⟩ := hSw
    go_simp
    try with_reducible rfl
  try simp only [List.getElem_toArray, List.getElem_cons_succ, List.getElem_cons_zero, Act.put, List.setIfInBounds_toArray, List.set_cons_zero, List.set_cons_succ]
  refine wpAnyH_ready (rs := [6]) (by kernel_rfl) (by simp) ?_
  refine AllReadyH.cons rfl (fun K hK => ?_) AllReadyH.nil
  go_simp
  refine (near_any kind near x i kk ks.length _).mono ?_
  rintro e w2 ⟨i', k', rfl, hB_⟩
  simp only [opA]
  have hB2 := Lib.hid (bnext hBr.out hB_)
  have hB2d := Lib.hid (bnext hBd.out hB_)
  clear hB_
  refine hK.out _ _ (hSb.out _ hB2d.out) (fun hS2 => ?_)
  clear hK K
  try simp only [List.getElem_toArray, List.getElem_cons_succ, List.getElem_cons_zero, Act.put, List.setIfInBounds_toArray, List.set_cons_zero, List.set_cons_succ]
  refine wpAnyH_done (by kernel_rfl) ?_ _
  simp only [HeadPost]
  clear hS0 hS2
  have hb := block_below hB2d.out hHb1.out
  have hb2 := Lib.hid hb
  have xx0 : w2.cell? ⟨w.heap.size, 0, none⟩ = some (.int .i64 kind) := by rw [block_cell hb]; rfl
  have ff0 : w2.frozen? ⟨w.heap.size, 0, none⟩ = false := block_free hb 0
  have xx1 : w2.cell? ⟨w.heap.size, 1, none⟩ = some (.bool near) := by rw [block_cell hb]; rfl
  have ff1 : w2.frozen? ⟨w.heap.size, 1, none⟩ = false := block_free hb 1
  have xx2 : w2.cell? ⟨w.heap.size, 2, none⟩ = some (.int .i64 x.m.kind) := by rw [block_cell hb]; rfl
  have ff2 : w2.frozen? ⟨w.heap.size, 2, none⟩ = false := block_free hb 2
  have xx3 : w2.cell? ⟨w.heap.size, 3, none⟩ = some (.int .i64 x.m.from_) := by rw [block_cell hb]; rfl
  have ff3 : w2.frozen? ⟨w.heap.size, 3, none⟩ = false := block_free hb 3
  have xx4 : w2.cell? ⟨w.heap.size, 4, none⟩ = some (.int .i64 x.m.to_) := by rw [block_cell hb]; rfl
  have ff4 : w2.frozen? ⟨w.heap.size, 4, none⟩ = false := block_free hb 4
  have xx5 : w2.cell? ⟨w.heap.size, 5, none⟩ = some (.int .i64 x.m.g) := by rw [block_cell hb]; rfl
  have ff5 : w2.frozen? ⟨w.heap.size, 5, none⟩ = false := block_free hb 5
  have xx6 : w2.cell? ⟨w.heap.size, 6, none⟩ = some (.int .i64 x.m.node) := by rw [block_cell hb]; rfl
  have ff6 : w2.frozen? ⟨w.heap.size, 6, none⟩ = false := block_free hb 6
  have xx7 : w2.cell? ⟨w.heap.size, 7, none⟩ = some (.int .i64 x.m.try_) := by rw [block_cell hb]; rfl
  have ff7 : w2.frozen? ⟨w.heap.size, 7, none⟩ = false := block_free hb 7
  have xx8 : w2.cell? ⟨w.heap.size, 8, none⟩ = some (.int .i64 x.m.low) := by rw [block_cell hb]; rfl
  have ff8 : w2.frozen? ⟨w.heap.size, 8, none⟩ = false := block_free hb 8
  have xx9 : w2.cell? ⟨w.heap.size, 9, none⟩ = some (.int .i64 x.m.code) := by rw [block_cell hb]; rfl
  have ff9 : w2.frozen? ⟨w.heap.size, 9, none⟩ = false := block_free hb 9
  have xx10 : w2.cell? ⟨w.heap.size, 10, none⟩ = some (.int .i64 x.m.ticket) := by rw [block_cell hb]; rfl
  have ff10 : w2.frozen? ⟨w.heap.size, 10, none⟩ = false := block_free hb 10
  have xx11 : w2.cell? ⟨w.heap.size, 11, none⟩ = some (.slice x.A x.m.told.length x.c) := by rw [block_cell hb]; rfl
  have ff11 : w2.frozen? ⟨w.heap.size, 11, none⟩ = false := block_free hb 11
  have xx12 : w2.cell? ⟨w.heap.size, 12, none⟩ = some (.slice x.B x.m.ops.length x.d) := by rw [block_cell hb]; rfl
  have ff12 : w2.frozen? ⟨w.heap.size, 12, none⟩ = false := block_free hb 12
  have xx13 : w2.cell? ⟨w.heap.size, 13, none⟩ = some (.int .i64 i) := by rw [block_cell hb]; rfl
  have ff13 : w2.frozen? ⟨w.heap.size, 13, none⟩ = false := block_free hb 13
  have xx14 : w2.cell? ⟨w.heap.size, 14, none⟩ = some (.int .i64 kk) := by rw [block_cell hb]; rfl
  have ff14 : w2.frozen? ⟨w.heap.size, 14, none⟩ = false := block_free hb 14
  have hKq : Hid (Kept (· = w.heap.size) w2 (((((((((((((((w2.setCell ⟨w.heap.size, 0, none⟩ (.int .i64 kind)).setCell ⟨w.heap.size, 1, none⟩ (.bool near)).setCell ⟨w.heap.size, 2, none⟩ (.int .i64 x.m.kind)).setCell ⟨w.heap.size, 3, none⟩ (.int .i64 x.m.from_)).setCell ⟨w.heap.size, 4, none⟩ (.int .i64 x.m.to_)).setCell ⟨w.heap.size, 5, none⟩ (.int .i64 x.m.g)).setCell ⟨w.heap.size, 6, none⟩ (.int .i64 x.m.node)).setCell ⟨w.heap.size, 7, none⟩ (.int .i64 x.m.try_)).setCell ⟨w.heap.size, 8, none⟩ (.int .i64 x.m.low)).setCell ⟨w.heap.size, 9, none⟩ (.int .i64 x.m.code)).setCell ⟨w.heap.size, 10, none⟩ (.int .i64 x.m.ticket)).setCell ⟨w.heap.size, 11, none⟩ (.slice x.A x.m.told.length x.c)).setCell ⟨w.heap.size, 12, none⟩ (.slice x.B x.m.ops.length x.d)).setCell ⟨w.heap.size, 13, none⟩ (.int .i64 i')).setCell ⟨w.heap.size, 14, none⟩ (.int .i64 k'))) := Lib.hid (Kept.setCell (S := (· = w.heap.size)) (p := ⟨w.heap.size, 14, none⟩) (Kept.setCell (S := (· = w.heap.size)) (p := ⟨w.heap.size, 13, none⟩) (Kept.setCell (S := (· = w.heap.size)) (p := ⟨w.heap.size, 12, none⟩) (Kept.setCell (S := (· = w.heap.size)) (p := ⟨w.heap.size, 11, none⟩) (Kept.setCell (S := (· = w.heap.size)) (p := ⟨w.heap.size, 10, none⟩) (Kept.setCell (S := (· = w.heap.size)) (p := ⟨w.heap.size, 9, none⟩) (Kept.setCell (S := (· = w.heap.size)) (p := ⟨w.heap.size, 8, none⟩) (Kept.setCell (S := (· = w.heap.size)) (p := ⟨w.heap.size, 7, none⟩) (Kept.setCell (S := (· = w.heap.size)) (p := ⟨w.heap.size, 6, none⟩) (Kept.setCell (S := (· = w.heap.size)) (p := ⟨w.heap.size, 5, none⟩) (Kept.setCell (S := (· = w.heap.size)) (p := ⟨w.heap.size, 4, none⟩) (Kept.setCell (S := (· = w.heap.size)) (p := ⟨w.heap.size, 3, none⟩) (Kept.setCell (S := (· = w.heap.size)) (p := ⟨w.heap.size, 2, none⟩) (Kept.setCell (S := (· = w.heap.size)) (p := ⟨w.heap.size, 1, none⟩) (Kept.setCell (S := (· = w.heap.size)) (p := ⟨w.heap.size, 0, none⟩) (Kept.refl (· = w.heap.size) w2) (.inl rfl) (.int .i64 kind)) (.inl rfl) (.bool near)) (.inl rfl) (.int .i64 x.m.kind)) (.inl rfl) (.int .i64 x.m.from_)) (.inl rfl) (.int .i64 x.m.to_)) (.inl rfl) (.int .i64 x.m.g)) (.inl rfl) (.int .i64 x.m.node)) (.inl rfl) (.int .i64 x.m.try_)) (.inl rfl) (.int .i64 x.m.low)) (.inl rfl) (.int .i64 x.m.code)) (.inl rfl) (.int .i64 x.m.ticket)) (.inl rfl) (.slice x.A x.m.told.length x.c)) (.inl rfl) (.slice x.B x.m.ops.length x.d)) (.inl rfl) (.int .i64 i')) (.inl rfl) (.int .i64 k'))
  clear hb
  go_wp2_with fail
  have hb := hb2.out
  clear xx0 ff0 xx1 ff1 xx2 ff2 xx3 ff3 xx4 ff4 xx5 ff5 xx6 ff6 xx7 ff7 xx8 ff8 xx9 ff9 xx10 ff10 xx11 ff11 xx12 ff12 xx13 ff13 xx14 ff14
  have hs0 : (w2.setCell ⟨w.heap.size, 0, none⟩ (.int .i64 kind)).heap[w.heap.size]? = some (.cells #[.int .i64 kind, .bool near, .int .i64 x.m.kind, .int .i64 x.m.from_, .int .i64 x.m.to_, .int .i64 x.m.g, .int .i64 x.m.node, .int .i64 x.m.try_, .int .i64 x.m.low, .int .i64 x.m.code, .int .i64 x.m.ticket, .slice x.A x.m.told.length x.c, .slice x.B x.m.ops.length x.d, .int .i64 i, .int .i64 kk] 48 (0, 0)) := block_setCell hb 0 _
  generalize w2.setCell ⟨w.heap.size, 0, none⟩ (.int .i64 kind) = w2_1 at *
  have hs1 : (w2_1.setCell ⟨w.heap.size, 1, none⟩ (.bool near)).heap[w.heap.size]? = some (.cells #[.int .i64 kind, .bool near, .int .i64 x.m.kind, .int .i64 x.m.from_, .int .i64 x.m.to_, .int .i64 x.m.g, .int .i64 x.m.node, .int .i64 x.m.try_, .int .i64 x.m.low, .int .i64 x.m.code, .int .i64 x.m.ticket, .slice x.A x.m.told.length x.c, .slice x.B x.m.ops.length x.d, .int .i64 i, .int .i64 kk] 48 (0, 0)) := block_setCell hs0 1 _
  generalize w2_1.setCell ⟨w.heap.size, 1, none⟩ (.bool near) = w2_2 at *
  have hs2 : (w2_2.setCell ⟨w.heap.size, 2, none⟩ (.int .i64 x.m.kind)).heap[w.heap.size]? = some (.cells #[.int .i64 kind, .bool near, .int .i64 x.m.kind, .int .i64 x.m.from_, .int .i64 x.m.to_, .int .i64 x.m.g, .int .i64 x.m.node, .int .i64 x.m.try_, .int .i64 x.m.low, .int .i64 x.m.code, .int .i64 x.m.ticket, .slice x.A x.m.told.length x.c, .slice x.B x.m.ops.length x.d, .int .i64 i, .int .i64 kk] 48 (0, 0)) := block_setCell hs1 2 _
  generalize w2_2.setCell ⟨w.heap.size, 2, none⟩ (.int .i64 x.m.kind) = w2_3 at *
  have hs3 : (w2_3.setCell ⟨w.heap.size, 3, none⟩ (.int .i64 x.m.from_)).heap[w.heap.size]? = some (.cells #[.int .i64 kind, .bool near, .int .i64 x.m.kind, .int .i64 x.m.from_, .int .i64 x.m.to_, .int .i64 x.m.g, .int .i64 x.m.node, .int .i64 x.m.try_, .int .i64 x.m.low, .int .i64 x.m.code, .int .i64 x.m.ticket, .slice x.A x.m.told.length x.c, .slice x.B x.m.ops.length x.d, .int .i64 i, .int .i64 kk] 48 (0, 0)) := block_setCell hs2 3 _
  generalize w2_3.setCell ⟨w.heap.size, 3, none⟩ (.int .i64 x.m.from_) = w2_4 at *
  have hs4 : (w2_4.setCell ⟨w.heap.size, 4, none⟩ (.int .i64 x.m.to_)).heap[w.heap.size]? = some (.cells #[.int .i64 kind, .bool near, .int .i64 x.m.kind, .int .i64 x.m.from_, .int .i64 x.m.to_, .int .i64 x.m.g, .int .i64 x.m.node, .int .i64 x.m.try_, .int .i64 x.m.low, .int .i64 x.m.code, .int .i64 x.m.ticket, .slice x.A x.m.told.length x.c, .slice x.B x.m.ops.length x.d, .int .i64 i, .int .i64 kk] 48 (0, 0)) := block_setCell hs3 4 _
  generalize w2_4.setCell ⟨w.heap.size, 4, none⟩ (.int .i64 x.m.to_) = w2_5 at *
  have hs5 : (w2_5.setCell ⟨w.heap.size, 5, none⟩ (.int .i64 x.m.g)).heap[w.heap.size]? = some (.cells #[.int .i64 kind, .bool near, .int .i64 x.m.kind, .int .i64 x.m.from_, .int .i64 x.m.to_, .int .i64 x.m.g, .int .i64 x.m.node, .int .i64 x.m.try_, .int .i64 x.m.low, .int .i64 x.m.code, .int .i64 x.m.ticket, .slice x.A x.m.told.length x.c, .slice x.B x.m.ops.length x.d, .int .i64 i, .int .i64 kk] 48 (0, 0)) := block_setCell hs4 5 _
  generalize w2_5.setCell ⟨w.heap.size, 5, none⟩ (.int .i64 x.m.g) = w2_6 at *
  have hs6 : (w2_6.setCell ⟨w.heap.size, 6, none⟩ (.int .i64 x.m.node)).heap[w.heap.size]? = some (.cells #[.int .i64 kind, .bool near, .int .i64 x.m.kind, .int .i64 x.m.from_, .int .i64 x.m.to_, .int .i64 x.m.g, .int .i64 x.m.node, .int .i64 x.m.try_, .int .i64 x.m.low, .int .i64 x.m.code, .int .i64 x.m.ticket, .slice x.A x.m.told.length x.c, .slice x.B x.m.ops.length x.d, .int .i64 i, .int .i64 kk] 48 (0, 0)) := block_setCell hs5 6 _
  generalize w2_6.setCell ⟨w.heap.size, 6, none⟩ (.int .i64 x.m.node) = w2_7 at *
  have hs7 : (w2_7.setCell ⟨w.heap.size, 7, none⟩ (.int .i64 x.m.try_)).heap[w.heap.size]? = some (.cells #[.int .i64 kind, .bool near, .int .i64 x.m.kind, .int .i64 x.m.from_, .int .i64 x.m.to_, .int .i64 x.m.g, .int .i64 x.m.node, .int .i64 x.m.try_, .int .i64 x.m.low, .int .i64 x.m.code, .int .i64 x.m.ticket, .slice x.A x.m.told.length x.c, .slice x.B x.m.ops.length x.d, .int .i64 i, .int .i64 kk] 48 (0, 0)) := block_setCell hs6 7 _
  generalize w2_7.setCell ⟨w.heap.size, 7, none⟩ (.int .i64 x.m.try_) = w2_8 at *
  have hs8 : (w2_8.setCell ⟨w.heap.size, 8, none⟩ (.int .i64 x.m.low)).heap[w.heap.size]? = some (.cells #[.int .i64 kind, .bool near, .int .i64 x.m.kind, .int .i64 x.m.from_, .int .i64 x.m.to_, .int .i64 x.m.g, .int .i64 x.m.node, .int .i64 x.m.try_, .int .i64 x.m.low, .int .i64 x.m.code, .int .i64 x.m.ticket, .slice x.A x.m.told.length x.c, .slice x.B x.m.ops.length x.d, .int .i64 i, .int .i64 kk] 48 (0, 0)) := block_setCell hs7 8 _
  generalize w2_8.setCell ⟨w.heap.size, 8, none⟩ (.int .i64 x.m.low) = w2_9 at *
  have hs9 : (w2_9.setCell ⟨w.heap.size, 9, none⟩ (.int .i64 x.m.code)).heap[w.heap.size]? = some (.cells #[.int .i64 kind, .bool near, .int .i64 x.m.kind, .int .i64 x.m.from_, .int .i64 x.m.to_, .int .i64 x.m.g, .int .i64 x.m.node, .int .i64 x.m.try_, .int .i64 x.m.low, .int .i64 x.m.code, .int .i64 x.m.ticket, .slice x.A x.m.told.length x.c, .slice x.B x.m.ops.length x.d, .int .i64 i, .int .i64 kk] 48 (0, 0)) := block_setCell hs8 9 _
  generalize w2_9.setCell ⟨w.heap.size, 9, none⟩ (.int .i64 x.m.code) = w2_10 at *
  have hs10 : (w2_10.setCell ⟨w.heap.size, 10, none⟩ (.int .i64 x.m.ticket)).heap[w.heap.size]? = some (.cells #[.int .i64 kind, .bool near, .int .i64 x.m.kind, .int .i64 x.m.from_, .int .i64 x.m.to_, .int .i64 x.m.g, .int .i64 x.m.node, .int .i64 x.m.try_, .int .i64 x.m.low, .int .i64 x.m.code, .int .i64 x.m.ticket, .slice x.A x.m.told.length x.c, .slice x.B x.m.ops.length x.d, .int .i64 i, .int .i64 kk] 48 (0, 0)) := block_setCell hs9 10 _
  generalize w2_10.setCell ⟨w.heap.size, 10, none⟩ (.int .i64 x.m.ticket) = w2_11 at *
  have hs11 : (w2_11.setCell ⟨w.heap.size, 11, none⟩ (.slice x.A x.m.told.length x.c)).heap[w.heap.size]? = some (.cells #[.int .i64 kind, .bool near, .int .i64 x.m.kind, .int .i64 x.m.from_, .int .i64 x.m.to_, .int .i64 x.m.g, .int .i64 x.m.node, .int .i64 x.m.try_, .int .i64 x.m.low, .int .i64 x.m.code, .int .i64 x.m.ticket, .slice x.A x.m.told.length x.c, .slice x.B x.m.ops.length x.d, .int .i64 i, .int .i64 kk] 48 (0, 0)) := block_setCell hs10 11 _
  generalize w2_11.setCell ⟨w.heap.size, 11, none⟩ (.slice x.A x.m.told.length x.c) = w2_12 at *
  have hs12 : (w2_12.setCell ⟨w.heap.size, 12, none⟩ (.slice x.B x.m.ops.length x.d)).heap[w.heap.size]? = some (.cells #[.int .i64 kind, .bool near, .int .i64 x.m.kind, .int .i64 x.m.from_, .int .i64 x.m.to_, .int .i64 x.m.g, .int .i64 x.m.node, .int .i64 x.m.try_, .int .i64 x.m.low, .int .i64 x.m.code, .int .i64 x.m.ticket, .slice x.A x.m.told.length x.c, .slice x.B x.m.ops.length x.d, .int .i64 i, .int .i64 kk] 48 (0, 0)) := block_setCell hs11 12 _
  generalize w2_12.setCell ⟨w.heap.size, 12, none⟩ (.slice x.B x.m.ops.length x.d) = w2_13 at *
  have hs13 : (w2_13.setCell ⟨w.heap.size, 13, none⟩ (.int .i64 i')).heap[w.heap.size]? = some (.cells #[.int .i64 kind, .bool near, .int .i64 x.m.kind, .int .i64 x.m.from_, .int .i64 x.m.to_, .int .i64 x.m.g, .int .i64 x.m.node, .int .i64 x.m.try_, .int .i64 x.m.low, .int .i64 x.m.code, .int .i64 x.m.ticket, .slice x.A x.m.told.length x.c, .slice x.B x.m.ops.length x.d, .int .i64 i', .int .i64 kk] 48 (0, 0)) := block_setCell hs12 13 _
  generalize w2_13.setCell ⟨w.heap.size, 13, none⟩ (.int .i64 i') = w2_14 at *
  have hs14 : (w2_14.setCell ⟨w.heap.size, 14, none⟩ (.int .i64 k')).heap[w.heap.size]? = some (.cells #[.int .i64 kind, .bool near, .int .i64 x.m.kind, .int .i64 x.m.from_, .int .i64 x.m.to_, .int .i64 x.m.g, .int .i64 x.m.node, .int .i64 x.m.try_, .int .i64 x.m.low, .int .i64 x.m.code, .int .i64 x.m.ticket, .slice x.A x.m.told.length x.c, .slice x.B x.m.ops.length x.d, .int .i64 i', .int .i64 k'] 48 (0, 0)) := block_setCell hs13 14 _
  generalize w2_14.setCell ⟨w.heap.size, 14, none⟩ (.int .i64 k') = w2F at *

  have hWF := Lib.hid hs14
  clear hs0 hs1 hs2 hs3 hs4 hs5 hs6 hs7 hs8 hs9 hs10 hs11 hs12 hs13 hs14 hb
  have hI3 := Lib.hid (hI.out.store hB2.out hKq.out hI.out.below.size hb2.out (by decide))
  refine (hCut.out w2F hI3.out.below).mono ?_
  rintro e w4 ⟨B', d', rfl, hF_, hB_⟩
  obtain ⟨m', hm'⟩ : ∃ m', m' = cutM x.m := ⟨_, rfl⟩
  rw [← hm'] at hF_ ⊢
  simp only [msgA]
  have hBa := below_alloc hB_ (.cells #[.int .i64 m'.kind, .int .i64 m'.from_, .int .i64 m'.to_, .int .i64 m'.g, .int .i64 m'.node, .int .i64 m'.try_, .int .i64 m'.low, .int .i64 m'.code, .int .i64 m'.ticket, .slice x.A m'.told.length x.c, .slice B' m'.ops.length d'] 31)
  have hI5 := Lib.hid (hI3.out.later hBa)
  have hF5 := Lib.hid (hF_.below (below_alloc (Below.refl _ w4) (.cells #[.int .i64 m'.kind, .int .i64 m'.from_, .int .i64 m'.to_, .int .i64 m'.g, .int .i64 m'.node, .int .i64 m'.try_, .int .i64 m'.low, .int .i64 m'.code, .int .i64 m'.ticket, .slice x.A m'.told.length x.c, .slice B' m'.ops.length d'] 31)))
  have hb7 := Lib.hid (block_below hBa hWF.out)
  have hb8 := Lib.hid (heap_alloc_new w4 (.cells #[.int .i64 m'.kind, .int .i64 m'.from_, .int .i64 m'.to_, .int .i64 m'.g, .int .i64 m'.node, .int .i64 m'.try_, .int .i64 m'.low, .int .i64 m'.code, .int .i64 m'.ticket, .slice x.A m'.told.length x.c, .slice B' m'.ops.length d'] 31))
  have z0 : (w4.alloc (.cells #[.int .i64 m'.kind, .int .i64 m'.from_, .int .i64 m'.to_, .int .i64 m'.g, .int .i64 m'.node, .int .i64 m'.try_, .int .i64 m'.low, .int .i64 m'.code, .int .i64 m'.ticket, .slice x.A m'.told.length x.c, .slice B' m'.ops.length d'] 31)).cell? ⟨w.heap.size, 0, none⟩ = some (.int .i64 kind) := by rw [block_cell hb7.out]; rfl
  have z13 : (w4.alloc (.cells #[.int .i64 m'.kind, .int .i64 m'.from_, .int .i64 m'.to_, .int .i64 m'.g, .int .i64 m'.node, .int .i64 m'.try_, .int .i64 m'.low, .int .i64 m'.code, .int .i64 m'.ticket, .slice x.A m'.told.length x.c, .slice B' m'.ops.length d'] 31)).cell? ⟨w.heap.size, 13, none⟩ = some (.int .i64 i') := by rw [block_cell hb7.out]; rfl
  have z14 : (w4.alloc (.cells #[.int .i64 m'.kind, .int .i64 m'.from_, .int .i64 m'.to_, .int .i64 m'.g, .int .i64 m'.node, .int .i64 m'.try_, .int .i64 m'.low, .int .i64 m'.code, .int .i64 m'.ticket, .slice x.A m'.told.length x.c, .slice B' m'.ops.length d'] 31)).cell? ⟨w.heap.size, 14, none⟩ = some (.int .i64 k') := by rw [block_cell hb7.out]; rfl
  clear hF_ hB_ hm' hBa
  rcases op_cases kind with rfl | rfl | rfl | rfl | rfl | rfl | rfl | rfl | rfl | rfl | rfl | rfl | ⟨e0, e1, e2, e3, e4, e5, e6, e7, e8, e9, e10, e11⟩
  · go_wp2_with fail
    generalize w4.alloc (.cells #[.int .i64 m'.kind, .int .i64 m'.from_, .int .i64 m'.to_, .int .i64 m'.g, .int .i64 m'.node, .int .i64 m'.try_, .int .i64 m'.low, .int .i64 m'.code, .int .i64 m'.ticket, .slice x.A m'.told.length x.c, .slice B' m'.ops.length d'] 31) = W5 at *
    refine (Ours_any m' x.A x.c B' d' W5).mono ?_
    rintro e w6 ⟨rfl, hB_⟩
    simp only [msgA]
    have hI6 := Lib.hid (hI5.out.later hB_)
    have hF6 := Lib.hid (hF5.out.below hB_)
    have hb6 := Lib.hid (block_below hB_ hb8.out)
    clear hB_
    go_wp2_with fail
    have hrow := Lib.hid (show RowAt (w6.alloc (.cells #[.int .i64 m'.kind, .int .i64 m'.from_, .int .i64 m'.to_, .int .i64 m'.g, .int .i64 m'.node, .int .i64 m'.try_, .int .i64 m'.low, .int .i64 m'.code, .int .i64 m'.ticket, .slice x.A m'.told.length x.c, .slice B' m'.ops.length d'] 37)) (some ⟨w6.heap.size, 0, none⟩) (mvsC [⟨m', x.A, x.c, B', d'⟩]) from RowAt.made rfl)
    have hbm := Lib.hid (heap_alloc_new w6 (.cells #[.int .i64 m'.kind, .int .i64 m'.from_, .int .i64 m'.to_, .int .i64 m'.g, .int .i64 m'.node, .int .i64 m'.try_, .int .i64 m'.low, .int .i64 m'.code, .int .i64 m'.ticket, .slice x.A m'.told.length x.c, .slice B' m'.ops.length d'] 37))
    have hBa := below_alloc (Below.refl _ w6) (.cells #[.int .i64 m'.kind, .int .i64 m'.from_, .int .i64 m'.to_, .int .i64 m'.g, .int .i64 m'.node, .int .i64 m'.try_, .int .i64 m'.low, .int .i64 m'.code, .int .i64 m'.ticket, .slice x.A m'.told.length x.c, .slice B' m'.ops.length d'] 37)
    have hI7 := Lib.hid (hI6.out.later hBa)
    have hF7 := Lib.hid (hF6.out.below hBa)
    have hb7b := Lib.hid (block_below hBa hb6.out)
    clear hBa
    generalize w6.alloc (.cells #[.int .i64 m'.kind, .int .i64 m'.from_, .int .i64 m'.to_, .int .i64 m'.g, .int .i64 m'.node, .int .i64 m'.try_, .int .i64 m'.low, .int .i64 m'.code, .int .i64 m'.ticket, .slice x.A m'.told.length x.c, .slice B' m'.ops.length d'] 37) = w7 at *
    have hsm := hgd.out.small
    obtain ⟨go, hgo_⟩ : ∃ go, go = goesM cz most ks m' := ⟨_, rfl⟩
    obtain ⟨k8, hk8_⟩ : ∃ k8, k8 = send1 cz most ks m' := ⟨_, rfl⟩
    have hgo := Lib.hid hgo_
    have hk8 := Lib.hid hk8_
    have hg8_ := send_good (cz := cz) hgd.out m'
    rw [← hk8_] at hg8_
    have hg8 := Lib.hid hg8_
    clear hgo_ hk8_ hg8_
    have hSH := Lib.hid (send_one (most := most) (ks := ks) (p := p) (cz := cz) ⟨m', x.A, x.c, B', d'⟩ (some ⟨w6.heap.size, 0, none⟩) w7 (hH.out.1.below hI7.out.below) hI7.out.net hrow.out
      (fun ad h => by
        cases h
        rintro ⟨_, cur, T, fr, hb, hT⟩
        rw [hbm.out] at hb
        simp only [Option.some.injEq, Obj.cells.injEq] at hb
        obtain ⟨_, rfl, _⟩ := hb
        simp at hT) ⟨hF7.out.r, hF7.out.fa.notNS (Nat.le_of_lt hp.out), hF7.out.fb.notNS (Nat.le_of_lt hp.out)⟩ hsm hgo.out hk8.out)
    have hRH := Lib.hid (fun V h1 h2 => rsend_one (q := q) (most := most) (ks := ks) (cz := cz) m' x.A x.c B' d' V h1 h2 hsm hgo.out hk8.out)
    clear hsm
    refine hSH.out.mono ?_
    rintro e w8 ⟨rfl, hN_, hK_⟩
    have hI8 := Lib.hid (hI7.out.nstep hp.out hN_ (.of hK_))
    have hF8 := Lib.hid (hF7.out.kept (KeptM_of_N (Nat.le_of_lt hp.out) hK_))
    have hb8w := Lib.hid (hI7.out.nblock (.of hK_) hb7b.out (by decide))
    obtain ⟨yx0, yx1, yx2, yx3, yx4, yx5, yx6, yx7, yx8, yx9, yx10⟩ := msg_cells hb8w.out
    clear hN_ hK_
    cases go
    all_goals
      go_wp2_with fail
      refine (hRH.out w8 hI8.out.ref hF8.out.r).mono ?_
      rintro e w9 ⟨rfl, hR_, hK_⟩
      have hI9 := Lib.hid (hI8.out.rstep hq.out hR_ hK_)
      clear hR_ hK_
      go_wp2_with fail
      go_ret
      exact ⟨rfl, _, _, hI9.out, hg8.out⟩
  · go_wp2_with fail
    generalize w4.alloc (.cells #[.int .i64 m'.kind, .int .i64 m'.from_, .int .i64 m'.to_, .int .i64 m'.g, .int .i64 m'.node, .int .i64 m'.try_, .int .i64 m'.low, .int .i64 m'.code, .int .i64 m'.ticket, .slice x.A m'.told.length x.c, .slice B' m'.ops.length d'] 31) = W5 at *
    refine (Ours_any m' x.A x.c B' d' W5).mono ?_
    rintro e w6 ⟨rfl, hB_⟩
    simp only [msgA]
    have hI6 := Lib.hid (hI5.out.later hB_)
    have hF6 := Lib.hid (hF5.out.below hB_)
    have hb6 := Lib.hid (block_below hB_ hb8.out)
    clear hB_
    go_wp2_with fail
    have hrow := Lib.hid (show RowAt (w6.alloc (.cells #[.int .i64 m'.kind, .int .i64 m'.from_, .int .i64 m'.to_, .int .i64 m'.g, .int .i64 m'.node, .int .i64 m'.try_, .int .i64 m'.low, .int .i64 m'.code, .int .i64 m'.ticket, .slice x.A m'.told.length x.c, .slice B' m'.ops.length d'] 37)) (some ⟨w6.heap.size, 0, none⟩) (mvsC [⟨m', x.A, x.c, B', d'⟩]) from RowAt.made rfl)
    have hbm := Lib.hid (heap_alloc_new w6 (.cells #[.int .i64 m'.kind, .int .i64 m'.from_, .int .i64 m'.to_, .int .i64 m'.g, .int .i64 m'.node, .int .i64 m'.try_, .int .i64 m'.low, .int .i64 m'.code, .int .i64 m'.ticket, .slice x.A m'.told.length x.c, .slice B' m'.ops.length d'] 37))
    have hBa := below_alloc (Below.refl _ w6) (.cells #[.int .i64 m'.kind, .int .i64 m'.from_, .int .i64 m'.to_, .int .i64 m'.g, .int .i64 m'.node, .int .i64 m'.try_, .int .i64 m'.low, .int .i64 m'.code, .int .i64 m'.ticket, .slice x.A m'.told.length x.c, .slice B' m'.ops.length d'] 37)
    have hI7 := Lib.hid (hI6.out.later hBa)
    have hF7 := Lib.hid (hF6.out.below hBa)
    have hb7b := Lib.hid (block_below hBa hb6.out)
    clear hBa
    generalize w6.alloc (.cells #[.int .i64 m'.kind, .int .i64 m'.from_, .int .i64 m'.to_, .int .i64 m'.g, .int .i64 m'.node, .int .i64 m'.try_, .int .i64 m'.low, .int .i64 m'.code, .int .i64 m'.ticket, .slice x.A m'.told.length x.c, .slice B' m'.ops.length d'] 37) = w7 at *
    have hsm := hgd.out.small
    obtain ⟨go, hgo_⟩ : ∃ go, go = goesM cz most ks m' := ⟨_, rfl⟩
    obtain ⟨k8, hk8_⟩ : ∃ k8, k8 = send1 cz most ks m' := ⟨_, rfl⟩
    have hgo := Lib.hid hgo_
    have hk8 := Lib.hid hk8_
    have hg8_ := send_good (cz := cz) hgd.out m'
    rw [← hk8_] at hg8_
    have hg8 := Lib.hid hg8_
    clear hgo_ hk8_ hg8_
    have hSH := Lib.hid (send_one (most := most) (ks := ks) (p := p) (cz := cz) ⟨m', x.A, x.c, B', d'⟩ (some ⟨w6.heap.size, 0, none⟩) w7 (hH.out.1.below hI7.out.below) hI7.out.net hrow.out
      (fun ad h => by
        cases h
        rintro ⟨_, cur, T, fr, hb, hT⟩
        rw [hbm.out] at hb
        simp only [Option.some.injEq, Obj.cells.injEq] at hb
        obtain ⟨_, rfl, _⟩ := hb
        simp at hT) ⟨hF7.out.r, hF7.out.fa.notNS (Nat.le_of_lt hp.out), hF7.out.fb.notNS (Nat.le_of_lt hp.out)⟩ hsm hgo.out hk8.out)
    have hRH := Lib.hid (fun V h1 h2 => rsend_one (q := q) (most := most) (ks := ks) (cz := cz) m' x.A x.c B' d' V h1 h2 hsm hgo.out hk8.out)
    clear hsm
    refine hSH.out.mono ?_
    rintro e w8 ⟨rfl, hN_, hK_⟩
    have hI8 := Lib.hid (hI7.out.nstep hp.out hN_ (.of hK_))
    have hF8 := Lib.hid (hF7.out.kept (KeptM_of_N (Nat.le_of_lt hp.out) hK_))
    have hb8w := Lib.hid (hI7.out.nblock (.of hK_) hb7b.out (by decide))
    obtain ⟨yx0, yx1, yx2, yx3, yx4, yx5, yx6, yx7, yx8, yx9, yx10⟩ := msg_cells hb8w.out
    clear hN_ hK_
    cases go
    all_goals
      go_wp2_with fail
      refine (hRH.out w8 hI8.out.ref hF8.out.r).mono ?_
      rintro e w9 ⟨rfl, hR_, hK_⟩
      have hI9 := Lib.hid (hI8.out.rstep hq.out hR_ hK_)
      clear hR_ hK_
      go_wp2_with fail
      go_ret
      exact ⟨rfl, _, _, hI9.out, hg8.out⟩
  · as_aux_lemma =>
      go_wp2_with fail
      generalize w4.alloc (.cells #[.int .i64 m'.kind, .int .i64 m'.from_, .int .i64 m'.to_, .int .i64 m'.g, .int .i64 m'.node, .int .i64 m'.try_, .int .i64 m'.low, .int .i64 m'.code, .int .i64 m'.ticket, .slice x.A m'.told.length x.c, .slice B' m'.ops.length d'] 31) = W5 at *
      obtain ⟨m2, code, ks2, hn_, hr_, hg2_⟩ := del_pair (cz := cz) hgd.out p q i'
      have hn := Lib.hid hn_
      have hr := Lib.hid hr_
      have hg2 := Lib.hid hg2_
      clear hn_ hr_ hg2_
      refine (hn.out W5 (hH.out.1.below hI5.out.below) hI5.out.net).mono ?_
      rintro e w6 ⟨⟨A2, c2, B2, d2, rfl, hM_, hF_⟩, hN_, hK_⟩
      simp only [msgA]
      have hI6 := Lib.hid (hI5.out.nstep hp.out hN_ hK_)
      have hb6 := Lib.hid (hI5.out.nblock hK_ hb7.out (by decide))
      have hBa := below_alloc (Below.refl _ w6) (.cells #[.int .i64 m2.kind, .int .i64 m2.from_, .int .i64 m2.to_, .int .i64 m2.g, .int .i64 m2.node, .int .i64 m2.try_, .int .i64 m2.low, .int .i64 m2.code, .int .i64 m2.ticket, .slice A2 m2.told.length c2, .slice B2 m2.ops.length d2] 37)
      have hI7 := Lib.hid (hI6.out.later hBa)
      have hM7 := Lib.hid (hM_.below hBa)
      have hFr := Lib.hid hF_
      have hqw := Lib.hid (hI5.out.ref.lt)
      have hb7b := Lib.hid (block_below hBa hb6.out)
      have hby := Lib.hid (heap_alloc_new w6 (.cells #[.int .i64 m2.kind, .int .i64 m2.from_, .int .i64 m2.to_, .int .i64 m2.g, .int .i64 m2.node, .int .i64 m2.try_, .int .i64 m2.low, .int .i64 m2.code, .int .i64 m2.ticket, .slice A2 m2.told.length c2, .slice B2 m2.ops.length d2] 37))
      have u13 : (w6.alloc (.cells #[.int .i64 m2.kind, .int .i64 m2.from_, .int .i64 m2.to_, .int .i64 m2.g, .int .i64 m2.node, .int .i64 m2.try_, .int .i64 m2.low, .int .i64 m2.code, .int .i64 m2.ticket, .slice A2 m2.told.length c2, .slice B2 m2.ops.length d2] 37)).cell? ⟨w.heap.size, 13, none⟩ = some (.int .i64 i') := by rw [block_cell hb7b.out]; rfl
      clear hM_ hF_ hN_ hK_ hBa
      go_wp2_with fail
      generalize w6.alloc (.cells #[.int .i64 m2.kind, .int .i64 m2.from_, .int .i64 m2.to_, .int .i64 m2.g, .int .i64 m2.node, .int .i64 m2.try_, .int .i64 m2.low, .int .i64 m2.code, .int .i64 m2.ticket, .slice A2 m2.told.length c2, .slice B2 m2.ops.length d2] 37) = W7 at *
      refine (hr.out W7 hI7.out.ref).mono ?_
      rintro e w8 ⟨⟨A3, c3, B3, d3, rfl, hM3_, _⟩, hR_, hK_⟩
      simp only [msgA]
      have hI8 := Lib.hid (hI7.out.rstep hq.out hR_ hK_)
      have hM8 := hI7.out.rmsg hK_ hM7.out hFr.out hqw.out
      have hby8 := hI7.out.rblock hK_ hby.out (by decide)
      have hBa := below_alloc (Below.refl _ w8) (.cells #[.int .i64 m2.kind, .int .i64 m2.from_, .int .i64 m2.to_, .int .i64 m2.g, .int .i64 m2.node, .int .i64 m2.try_, .int .i64 m2.low, .int .i64 m2.code, .int .i64 m2.ticket, .slice A3 m2.told.length c3, .slice B3 m2.ops.length d3] 31)
      have hI9 := Lib.hid (hI8.out.later hBa)
      have hMa := Lib.hid (hM8.below hBa)
      have hMb := Lib.hid (hM3_.below hBa)
      have hby9 := Lib.hid (block_below hBa hby8)
      have hbz := Lib.hid (heap_alloc_new w8 (.cells #[.int .i64 m2.kind, .int .i64 m2.from_, .int .i64 m2.to_, .int .i64 m2.g, .int .i64 m2.node, .int .i64 m2.try_, .int .i64 m2.low, .int .i64 m2.code, .int .i64 m2.ticket, .slice A3 m2.told.length c3, .slice B3 m2.ops.length d3] 31))
      clear hM3_ hR_ hK_ hM8 hby8 hBa u13
      go_wp2_with fail
      generalize w8.alloc (.cells #[.int .i64 m2.kind, .int .i64 m2.from_, .int .i64 m2.to_, .int .i64 m2.g, .int .i64 m2.node, .int .i64 m2.try_, .int .i64 m2.low, .int .i64 m2.code, .int .i64 m2.ticket, .slice A3 m2.told.length c3, .slice B3 m2.ops.length d3] 31) = W9 at *
      have hBd9 := Lib.hid (Below.refl W9.heap.size W9).drew
      have hSf : Hid (∀ V : World, Below W9.heap.size W9 V → V.cell? ⟨w6.heap.size, 0, none⟩ = some (.int .i64 m2.kind) ∧ V.cell? ⟨w6.heap.size, 1, none⟩ = some (.int .i64 m2.from_) ∧ V.cell? ⟨w6.heap.size, 2, none⟩ = some (.int .i64 m2.to_) ∧ V.cell? ⟨w6.heap.size, 3, none⟩ = some (.int .i64 m2.g) ∧ V.cell? ⟨w6.heap.size, 4, none⟩ = some (.int .i64 m2.node) ∧ V.cell? ⟨w6.heap.size, 5, none⟩ = some (.int .i64 m2.try_) ∧ V.cell? ⟨w6.heap.size, 6, none⟩ = some (.int .i64 m2.low) ∧ V.cell? ⟨w6.heap.size, 7, none⟩ = some (.int .i64 m2.code) ∧ V.cell? ⟨w6.heap.size, 8, none⟩ = some (.int .i64 m2.ticket) ∧ V.cell? ⟨w6.heap.size, 9, none⟩ = some (.slice A2 m2.told.length c2) ∧ V.cell? ⟨w6.heap.size, 10, none⟩ = some (.slice B2 m2.ops.length d2) ∧ V.cell? ⟨w8.heap.size, 0, none⟩ = some (.int .i64 m2.kind) ∧ V.cell? ⟨w8.heap.size, 1, none⟩ = some (.int .i64 m2.from_) ∧ V.cell? ⟨w8.heap.size, 2, none⟩ = some (.int .i64 m2.to_) ∧ V.cell? ⟨w8.heap.size, 3, none⟩ = some (.int .i64 m2.g) ∧ V.cell? ⟨w8.heap.size, 4, none⟩ = some (.int .i64 m2.node) ∧ V.cell? ⟨w8.heap.size, 5, none⟩ = some (.int .i64 m2.try_) ∧ V.cell? ⟨w8.heap.size, 6, none⟩ = some (.int .i64 m2.low) ∧ V.cell? ⟨w8.heap.size, 7, none⟩ = some (.int .i64 m2.code) ∧ V.cell? ⟨w8.heap.size, 8, none⟩ = some (.int .i64 m2.ticket) ∧ V.cell? ⟨w8.heap.size, 9, none⟩ = some (.slice A3 m2.told.length c3) ∧ V.cell? ⟨w8.heap.size, 10, none⟩ = some (.slice B3 m2.ops.length d3)) := Lib.hid (fun V hb => by
        have e1 := block_below hb hby9.out
        have e2 := block_below hb hbz.out
        exact ⟨by rw [block_cell e1]; rfl, by rw [block_cell e1]; rfl, by rw [block_cell e1]; rfl, by rw [block_cell e1]; rfl, by rw [block_cell e1]; rfl, by rw [block_cell e1]; rfl, by rw [block_cell e1]; rfl, by rw [block_cell e1]; rfl, by rw [block_cell e1]; rfl, by rw [block_cell e1]; rfl, by rw [block_cell e1]; rfl, by rw [block_cell e2]; rfl, by rw [block_cell e2]; rfl, by rw [block_cell e2]; rfl, by rw [block_cell e2]; rfl, by rw [block_cell e2]; rfl, by rw [block_cell e2]; rfl, by rw [block_cell e2]; rfl, by rw [block_cell e2]; rfl, by rw [block_cell e2]; rfl, by rw [block_cell e2]; rfl, by rw [block_cell e2]; rfl⟩)
      refine wp_region_noPanic ?_
      refine wp_region_held_drew (S := fun V => V.cell? ⟨w6.heap.size, 0, none⟩ = some (.int .i64 m2.kind) ∧ V.cell? ⟨w6.heap.size, 1, none⟩ = some (.int .i64 m2.from_) ∧ V.cell? ⟨w6.heap.size, 2, none⟩ = some (.int .i64 m2.to_) ∧ V.cell? ⟨w6.heap.size, 3, none⟩ = some (.int .i64 m2.g) ∧ V.cell? ⟨w6.heap.size, 4, none⟩ = some (.int .i64 m2.node) ∧ V.cell? ⟨w6.heap.size, 5, none⟩ = some (.int .i64 m2.try_) ∧ V.cell? ⟨w6.heap.size, 6, none⟩ = some (.int .i64 m2.low) ∧ V.cell? ⟨w6.heap.size, 7, none⟩ = some (.int .i64 m2.code) ∧ V.cell? ⟨w6.heap.size, 8, none⟩ = some (.int .i64 m2.ticket) ∧ V.cell? ⟨w6.heap.size, 9, none⟩ = some (.slice A2 m2.told.length c2) ∧ V.cell? ⟨w6.heap.size, 10, none⟩ = some (.slice B2 m2.ops.length d2) ∧ V.cell? ⟨w8.heap.size, 0, none⟩ = some (.int .i64 m2.kind) ∧ V.cell? ⟨w8.heap.size, 1, none⟩ = some (.int .i64 m2.from_) ∧ V.cell? ⟨w8.heap.size, 2, none⟩ = some (.int .i64 m2.to_) ∧ V.cell? ⟨w8.heap.size, 3, none⟩ = some (.int .i64 m2.g) ∧ V.cell? ⟨w8.heap.size, 4, none⟩ = some (.int .i64 m2.node) ∧ V.cell? ⟨w8.heap.size, 5, none⟩ = some (.int .i64 m2.try_) ∧ V.cell? ⟨w8.heap.size, 6, none⟩ = some (.int .i64 m2.low) ∧ V.cell? ⟨w8.heap.size, 7, none⟩ = some (.int .i64 m2.code) ∧ V.cell? ⟨w8.heap.size, 8, none⟩ = some (.int .i64 m2.ticket) ∧ V.cell? ⟨w8.heap.size, 9, none⟩ = some (.slice A3 m2.told.length c3) ∧ V.cell? ⟨w8.heap.size, 10, none⟩ = some (.slice B3 m2.ops.length d3)) (by kernel_rfl) (hSf.out _ hBd9.out) (fun hS0 => ?_)
      refine wpAnyH_take (i := 0) (v := ?_) rfl (by kernel_rfl) (by kernel_rfl) (by kernel_rfl) (fun _ _ _ h => h) (Or.inl ⟨by rfl, ?_⟩) (by assumption) ?_
      rotate_left
      · intro w' hSw
        obtain ⟨s0, s1, s2, s3, s4, s5, s6, s7, s8, s9, s10, s11, s12, s13, s14, s15, s16, s17, s18, s19, s20, s21⟩ := hSw
        go_simp
        try with_reducible rfl
      try simp only [List.getElem_toArray, List.getElem_cons_succ, List.getElem_cons_zero, Act.put, List.setIfInBounds_toArray, List.set_cons_zero, List.set_cons_succ]
      refine wpAnyH_take (i := 1) (v := ?_) rfl (by kernel_rfl) (by kernel_rfl) (by kernel_rfl) (fun _ _ _ h => h) (Or.inl ⟨by rfl, ?_⟩) (by assumption) ?_
      rotate_left
      · intro w' hSw
        obtain ⟨s0, s1, s2, s3, s4, s5, s6, s7, s8, s9, s10, s11, s12, s13, s14, s15, s16, s17, s18, s19, s20, s21⟩ := hSw
        go_simp
        try with_reducible rfl
      try simp only [List.getElem_toArray, List.getElem_cons_succ, List.getElem_cons_zero, Act.put, List.setIfInBounds_toArray, List.set_cons_zero, List.set_cons_succ]
      refine wpAnyH_take (i := 2) (v := ?_) rfl (by kernel_rfl) (by kernel_rfl) (by kernel_rfl) (fun _ _ _ h => h) (Or.inl ⟨by rfl, ?_⟩) (by assumption) ?_
      rotate_left
      · intro w' hSw
        obtain ⟨s0, s1, s2, s3, s4, s5, s6, s7, s8, s9, s10, s11, s12, s13, s14, s15, s16, s17, s18, s19, s20, s21⟩ := hSw
        go_simp
        try with_reducible rfl
      try simp only [List.getElem_toArray, List.getElem_cons_succ, List.getElem_cons_zero, Act.put, List.setIfInBounds_toArray, List.set_cons_zero, List.set_cons_succ]
      refine wpAnyH_take (i := 3) (v := ?_) rfl (by kernel_rfl) (by kernel_rfl) (by kernel_rfl) (fun _ _ _ h => h) (Or.inl ⟨by rfl, ?_⟩) (by assumption) ?_
      rotate_left
      · intro w' hSw
        obtain ⟨s0, s1, s2, s3, s4, s5, s6, s7, s8, s9, s10, s11, s12, s13, s14, s15, s16, s17, s18, s19, s20, s21⟩ := hSw
        go_simp
        try with_reducible rfl
      try simp only [List.getElem_toArray, List.getElem_cons_succ, List.getElem_cons_zero, Act.put, List.setIfInBounds_toArray, List.set_cons_zero, List.set_cons_succ]
      refine wpAnyH_take (i := 4) (v := ?_) rfl (by kernel_rfl) (by kernel_rfl) (by kernel_rfl) (fun _ _ _ h => h) (Or.inl ⟨by rfl, ?_⟩) (by assumption) ?_
      rotate_left
      · intro w' hSw
        obtain ⟨s0, s1, s2, s3, s4, s5, s6, s7, s8, s9, s10, s11, s12, s13, s14, s15, s16, s17, s18, s19, s20, s21⟩ := hSw
        go_simp
        try with_reducible rfl
      try simp only [List.getElem_toArray, List.getElem_cons_succ, List.getElem_cons_zero, Act.put, List.setIfInBounds_toArray, List.set_cons_zero, List.set_cons_succ]
      refine wpAnyH_take (i := 6) (v := ?_) rfl (by kernel_rfl) (by kernel_rfl) (by kernel_rfl) (fun _ _ _ h => h) (Or.inl ⟨by rfl, ?_⟩) (by assumption) ?_
      rotate_left
      · intro w' hSw
        obtain ⟨s0, s1, s2, s3, s4, s5, s6, s7, s8, s9, s10, s11, s12, s13, s14, s15, s16, s17, s18, s19, s20, s21⟩ := hSw
        go_simp
        try with_reducible rfl
      try simp only [List.getElem_toArray, List.getElem_cons_succ, List.getElem_cons_zero, Act.put, List.setIfInBounds_toArray, List.set_cons_zero, List.set_cons_succ]
      refine wpAnyH_ready (rs := [5]) (by kernel_rfl) (by simp) ?_
      refine AllReadyH.cons rfl (fun K hK => ?_) AllReadyH.nil
      go_simp
      refine (Plain_any m2 A2 c2 B2 d2 _).mono ?_
      rintro e w12 ⟨rfl, hB_⟩
      simp only [msgA]
      have hB12 := Lib.hid (bnext hBd9.out hB_)
      clear hB_
      refine hK.out _ _ (hSf.out _ hB12.out) (fun hS1 => ?_)
      clear hK K
      try simp only [List.getElem_toArray, List.getElem_cons_succ, List.getElem_cons_zero, Act.put, List.setIfInBounds_toArray, List.set_cons_zero, List.set_cons_succ]
      refine wpAnyH_ready (rs := [7]) (by kernel_rfl) (by simp) ?_
      refine AllReadyH.cons rfl (fun K hK => ?_) AllReadyH.nil
      go_simp
      refine (Same_any m2 A2 c2 B2 d2 m2 A3 c3 B3 d3 _ (hMa.out.below hB12.out) (hMb.out.below hB12.out)).mono ?_
      rintro e w13 ⟨b, rfl, hbt_, hB_⟩
      obtain rfl : b = true := hbt_.2 rfl
      have hB13 := Lib.hid (bnext hB12.out hB_)
      clear hB_ hbt_
      refine hK.out _ _ (hSf.out _ hB13.out) (fun hS2 => ?_)
      clear hK K
      try simp only [List.getElem_toArray, List.getElem_cons_succ, List.getElem_cons_zero, Act.put, List.setIfInBounds_toArray, List.set_cons_zero, List.set_cons_succ]
      refine wpAnyH_take (i := 8) (v := ?_) rfl (by kernel_rfl) (by kernel_rfl) (by kernel_rfl) (fun _ _ _ h => h) (Or.inl ⟨by rfl, ?_⟩) (by assumption) ?_
      rotate_left
      · intro w' hSw
        obtain ⟨s0, s1, s2, s3, s4, s5, s6, s7, s8, s9, s10, s11, s12, s13, s14, s15, s16, s17, s18, s19, s20, s21⟩ := hSw
        go_simp
        try with_reducible rfl
      try simp only [List.getElem_toArray, List.getElem_cons_succ, List.getElem_cons_zero, Act.put, List.setIfInBounds_toArray, List.set_cons_zero, List.set_cons_succ]
      refine wpAnyH_take (i := 9) (v := ?_) rfl (by kernel_rfl) (by kernel_rfl) (by kernel_rfl) (fun _ _ _ h => h) (Or.inl ⟨by rfl, ?_⟩) (by assumption) ?_
      rotate_left
      · intro w' hSw
        obtain ⟨s0, s1, s2, s3, s4, s5, s6, s7, s8, s9, s10, s11, s12, s13, s14, s15, s16, s17, s18, s19, s20, s21⟩ := hSw
        go_simp
        try with_reducible rfl
      try simp only [List.getElem_toArray, List.getElem_cons_succ, List.getElem_cons_zero, Act.put, List.setIfInBounds_toArray, List.set_cons_zero, List.set_cons_succ]
      refine wpAnyH_done (by kernel_rfl) ?_ _
      refine NoPanic.normal ?_
      clear hS0 hS1 hS2
      go_wp2_with fail
      go_ret
      exact ⟨rfl, _, _, hI9.out.later hB13.out, hg2.out⟩
  · as_aux_lemma =>
      go_wp2_with fail
      generalize w4.alloc (.cells #[.int .i64 m'.kind, .int .i64 m'.from_, .int .i64 m'.to_, .int .i64 m'.g, .int .i64 m'.node, .int .i64 m'.try_, .int .i64 m'.low, .int .i64 m'.code, .int .i64 m'.ticket, .slice x.A m'.told.length x.c, .slice B' m'.ops.length d'] 31) = W5 at *
      obtain ⟨m2, code, ks2, hn_, hr_, hg2_⟩ := del_pair (cz := cz) hgd.out p q i'
      have hn := Lib.hid hn_
      have hr := Lib.hid hr_
      have hg2 := Lib.hid hg2_
      clear hn_ hr_ hg2_
      refine (hn.out W5 (hH.out.1.below hI5.out.below) hI5.out.net).mono ?_
      rintro e w6 ⟨⟨A2, c2, B2, d2, rfl, hM_, hF_⟩, hN_, hK_⟩
      simp only [msgA]
      have hI6 := Lib.hid (hI5.out.nstep hp.out hN_ hK_)
      have hb6 := Lib.hid (hI5.out.nblock hK_ hb7.out (by decide))
      have hBa := below_alloc (Below.refl _ w6) (.cells #[.int .i64 m2.kind, .int .i64 m2.from_, .int .i64 m2.to_, .int .i64 m2.g, .int .i64 m2.node, .int .i64 m2.try_, .int .i64 m2.low, .int .i64 m2.code, .int .i64 m2.ticket, .slice A2 m2.told.length c2, .slice B2 m2.ops.length d2] 37)
      have hI7 := Lib.hid (hI6.out.later hBa)
      have hM7 := Lib.hid (hM_.below hBa)
      have hFr := Lib.hid hF_
      have hqw := Lib.hid (hI5.out.ref.lt)
      have hb7b := Lib.hid (block_below hBa hb6.out)
      have hby := Lib.hid (heap_alloc_new w6 (.cells #[.int .i64 m2.kind, .int .i64 m2.from_, .int .i64 m2.to_, .int .i64 m2.g, .int .i64 m2.node, .int .i64 m2.try_, .int .i64 m2.low, .int .i64 m2.code, .int .i64 m2.ticket, .slice A2 m2.told.length c2, .slice B2 m2.ops.length d2] 37))
      have u13 : (w6.alloc (.cells #[.int .i64 m2.kind, .int .i64 m2.from_, .int .i64 m2.to_, .int .i64 m2.g, .int .i64 m2.node, .int .i64 m2.try_, .int .i64 m2.low, .int .i64 m2.code, .int .i64 m2.ticket, .slice A2 m2.told.length c2, .slice B2 m2.ops.length d2] 37)).cell? ⟨w.heap.size, 13, none⟩ = some (.int .i64 i') := by rw [block_cell hb7b.out]; rfl
      clear hM_ hF_ hN_ hK_ hBa
      go_wp2_with fail
      generalize w6.alloc (.cells #[.int .i64 m2.kind, .int .i64 m2.from_, .int .i64 m2.to_, .int .i64 m2.g, .int .i64 m2.node, .int .i64 m2.try_, .int .i64 m2.low, .int .i64 m2.code, .int .i64 m2.ticket, .slice A2 m2.told.length c2, .slice B2 m2.ops.length d2] 37) = W7 at *
      refine (hr.out W7 hI7.out.ref).mono ?_
      rintro e w8 ⟨⟨A3, c3, B3, d3, rfl, hM3_, _⟩, hR_, hK_⟩
      simp only [msgA]
      have hI8 := Lib.hid (hI7.out.rstep hq.out hR_ hK_)
      have hM8 := hI7.out.rmsg hK_ hM7.out hFr.out hqw.out
      have hby8 := hI7.out.rblock hK_ hby.out (by decide)
      have hBa := below_alloc (Below.refl _ w8) (.cells #[.int .i64 m2.kind, .int .i64 m2.from_, .int .i64 m2.to_, .int .i64 m2.g, .int .i64 m2.node, .int .i64 m2.try_, .int .i64 m2.low, .int .i64 m2.code, .int .i64 m2.ticket, .slice A3 m2.told.length c3, .slice B3 m2.ops.length d3] 31)
      have hI9 := Lib.hid (hI8.out.later hBa)
      have hMa := Lib.hid (hM8.below hBa)
      have hMb := Lib.hid (hM3_.below hBa)
      have hby9 := Lib.hid (block_below hBa hby8)
      have hbz := Lib.hid (heap_alloc_new w8 (.cells #[.int .i64 m2.kind, .int .i64 m2.from_, .int .i64 m2.to_, .int .i64 m2.g, .int .i64 m2.node, .int .i64 m2.try_, .int .i64 m2.low, .int .i64 m2.code, .int .i64 m2.ticket, .slice A3 m2.told.length c3, .slice B3 m2.ops.length d3] 31))
      clear hM3_ hR_ hK_ hM8 hby8 hBa u13
      go_wp2_with fail
      generalize w8.alloc (.cells #[.int .i64 m2.kind, .int .i64 m2.from_, .int .i64 m2.to_, .int .i64 m2.g, .int .i64 m2.node, .int .i64 m2.try_, .int .i64 m2.low, .int .i64 m2.code, .int .i64 m2.ticket, .slice A3 m2.told.length c3, .slice B3 m2.ops.length d3] 31) = W9 at *
      have hBd9 := Lib.hid (Below.refl W9.heap.size W9).drew
      have hSf : Hid (∀ V : World, Below W9.heap.size W9 V → V.cell? ⟨w6.heap.size, 0, none⟩ = some (.int .i64 m2.kind) ∧ V.cell? ⟨w6.heap.size, 1, none⟩ = some (.int .i64 m2.from_) ∧ V.cell? ⟨w6.heap.size, 2, none⟩ = some (.int .i64 m2.to_) ∧ V.cell? ⟨w6.heap.size, 3, none⟩ = some (.int .i64 m2.g) ∧ V.cell? ⟨w6.heap.size, 4, none⟩ = some (.int .i64 m2.node) ∧ V.cell? ⟨w6.heap.size, 5, none⟩ = some (.int .i64 m2.try_) ∧ V.cell? ⟨w6.heap.size, 6, none⟩ = some (.int .i64 m2.low) ∧ V.cell? ⟨w6.heap.size, 7, none⟩ = some (.int .i64 m2.code) ∧ V.cell? ⟨w6.heap.size, 8, none⟩ = some (.int .i64 m2.ticket) ∧ V.cell? ⟨w6.heap.size, 9, none⟩ = some (.slice A2 m2.told.length c2) ∧ V.cell? ⟨w6.heap.size, 10, none⟩ = some (.slice B2 m2.ops.length d2) ∧ V.cell? ⟨w8.heap.size, 0, none⟩ = some (.int .i64 m2.kind) ∧ V.cell? ⟨w8.heap.size, 1, none⟩ = some (.int .i64 m2.from_) ∧ V.cell? ⟨w8.heap.size, 2, none⟩ = some (.int .i64 m2.to_) ∧ V.cell? ⟨w8.heap.size, 3, none⟩ = some (.int .i64 m2.g) ∧ V.cell? ⟨w8.heap.size, 4, none⟩ = some (.int .i64 m2.node) ∧ V.cell? ⟨w8.heap.size, 5, none⟩ = some (.int .i64 m2.try_) ∧ V.cell? ⟨w8.heap.size, 6, none⟩ = some (.int .i64 m2.low) ∧ V.cell? ⟨w8.heap.size, 7, none⟩ = some (.int .i64 m2.code) ∧ V.cell? ⟨w8.heap.size, 8, none⟩ = some (.int .i64 m2.ticket) ∧ V.cell? ⟨w8.heap.size, 9, none⟩ = some (.slice A3 m2.told.length c3) ∧ V.cell? ⟨w8.heap.size, 10, none⟩ = some (.slice B3 m2.ops.length d3)) := Lib.hid (fun V hb => by
        have e1 := block_below hb hby9.out
        have e2 := block_below hb hbz.out
        exact ⟨by rw [block_cell e1]; rfl, by rw [block_cell e1]; rfl, by rw [block_cell e1]; rfl, by rw [block_cell e1]; rfl, by rw [block_cell e1]; rfl, by rw [block_cell e1]; rfl, by rw [block_cell e1]; rfl, by rw [block_cell e1]; rfl, by rw [block_cell e1]; rfl, by rw [block_cell e1]; rfl, by rw [block_cell e1]; rfl, by rw [block_cell e2]; rfl, by rw [block_cell e2]; rfl, by rw [block_cell e2]; rfl, by rw [block_cell e2]; rfl, by rw [block_cell e2]; rfl, by rw [block_cell e2]; rfl, by rw [block_cell e2]; rfl, by rw [block_cell e2]; rfl, by rw [block_cell e2]; rfl, by rw [block_cell e2]; rfl, by rw [block_cell e2]; rfl⟩)
      refine wp_region_noPanic ?_
      refine wp_region_held_drew (S := fun V => V.cell? ⟨w6.heap.size, 0, none⟩ = some (.int .i64 m2.kind) ∧ V.cell? ⟨w6.heap.size, 1, none⟩ = some (.int .i64 m2.from_) ∧ V.cell? ⟨w6.heap.size, 2, none⟩ = some (.int .i64 m2.to_) ∧ V.cell? ⟨w6.heap.size, 3, none⟩ = some (.int .i64 m2.g) ∧ V.cell? ⟨w6.heap.size, 4, none⟩ = some (.int .i64 m2.node) ∧ V.cell? ⟨w6.heap.size, 5, none⟩ = some (.int .i64 m2.try_) ∧ V.cell? ⟨w6.heap.size, 6, none⟩ = some (.int .i64 m2.low) ∧ V.cell? ⟨w6.heap.size, 7, none⟩ = some (.int .i64 m2.code) ∧ V.cell? ⟨w6.heap.size, 8, none⟩ = some (.int .i64 m2.ticket) ∧ V.cell? ⟨w6.heap.size, 9, none⟩ = some (.slice A2 m2.told.length c2) ∧ V.cell? ⟨w6.heap.size, 10, none⟩ = some (.slice B2 m2.ops.length d2) ∧ V.cell? ⟨w8.heap.size, 0, none⟩ = some (.int .i64 m2.kind) ∧ V.cell? ⟨w8.heap.size, 1, none⟩ = some (.int .i64 m2.from_) ∧ V.cell? ⟨w8.heap.size, 2, none⟩ = some (.int .i64 m2.to_) ∧ V.cell? ⟨w8.heap.size, 3, none⟩ = some (.int .i64 m2.g) ∧ V.cell? ⟨w8.heap.size, 4, none⟩ = some (.int .i64 m2.node) ∧ V.cell? ⟨w8.heap.size, 5, none⟩ = some (.int .i64 m2.try_) ∧ V.cell? ⟨w8.heap.size, 6, none⟩ = some (.int .i64 m2.low) ∧ V.cell? ⟨w8.heap.size, 7, none⟩ = some (.int .i64 m2.code) ∧ V.cell? ⟨w8.heap.size, 8, none⟩ = some (.int .i64 m2.ticket) ∧ V.cell? ⟨w8.heap.size, 9, none⟩ = some (.slice A3 m2.told.length c3) ∧ V.cell? ⟨w8.heap.size, 10, none⟩ = some (.slice B3 m2.ops.length d3)) (by kernel_rfl) (hSf.out _ hBd9.out) (fun hS0 => ?_)
      refine wpAnyH_take (i := 0) (v := ?_) rfl (by kernel_rfl) (by kernel_rfl) (by kernel_rfl) (fun _ _ _ h => h) (Or.inl ⟨by rfl, ?_⟩) (by assumption) ?_
      rotate_left
      · intro w' hSw
        obtain ⟨s0, s1, s2, s3, s4, s5, s6, s7, s8, s9, s10, s11, s12, s13, s14, s15, s16, s17, s18, s19, s20, s21⟩ := hSw
        go_simp
        try with_reducible rfl
      try simp only [List.getElem_toArray, List.getElem_cons_succ, List.getElem_cons_zero, Act.put, List.setIfInBounds_toArray, List.set_cons_zero, List.set_cons_succ]
      refine wpAnyH_take (i := 1) (v := ?_) rfl (by kernel_rfl) (by kernel_rfl) (by kernel_rfl) (fun _ _ _ h => h) (Or.inl ⟨by rfl, ?_⟩) (by assumption) ?_
      rotate_left
      · intro w' hSw
        obtain ⟨s0, s1, s2, s3, s4, s5, s6, s7, s8, s9, s10, s11, s12, s13, s14, s15, s16, s17, s18, s19, s20, s21⟩ := hSw
        go_simp
        try with_reducible rfl
      try simp only [List.getElem_toArray, List.getElem_cons_succ, List.getElem_cons_zero, Act.put, List.setIfInBounds_toArray, List.set_cons_zero, List.set_cons_succ]
      refine wpAnyH_take (i := 2) (v := ?_) rfl (by kernel_rfl) (by kernel_rfl) (by kernel_rfl) (fun _ _ _ h => h) (Or.inl ⟨by rfl, ?_⟩) (by assumption) ?_
      rotate_left
      · intro w' hSw
        obtain ⟨s0, s1, s2, s3, s4, s5, s6, s7, s8, s9, s10, s11, s12, s13, s14, s15, s16, s17, s18, s19, s20, s21⟩ := hSw
        go_simp
        try with_reducible rfl
      try simp only [List.getElem_toArray, List.getElem_cons_succ, List.getElem_cons_zero, Act.put, List.setIfInBounds_toArray, List.set_cons_zero, List.set_cons_succ]
      refine wpAnyH_take (i := 3) (v := ?_) rfl (by kernel_rfl) (by kernel_rfl) (by kernel_rfl) (fun _ _ _ h => h) (Or.inl ⟨by rfl, ?_⟩) (by assumption) ?_
      rotate_left
      · intro w' hSw
        obtain ⟨s0, s1, s2, s3, s4, s5, s6, s7, s8, s9, s10, s11, s12, s13, s14, s15, s16, s17, s18, s19, s20, s21⟩ := hSw
        go_simp
        try with_reducible rfl
      try simp only [List.getElem_toArray, List.getElem_cons_succ, List.getElem_cons_zero, Act.put, List.setIfInBounds_toArray, List.set_cons_zero, List.set_cons_succ]
      refine wpAnyH_take (i := 4) (v := ?_) rfl (by kernel_rfl) (by kernel_rfl) (by kernel_rfl) (fun _ _ _ h => h) (Or.inl ⟨by rfl, ?_⟩) (by assumption) ?_
      rotate_left
      · intro w' hSw
        obtain ⟨s0, s1, s2, s3, s4, s5, s6, s7, s8, s9, s10, s11, s12, s13, s14, s15, s16, s17, s18, s19, s20, s21⟩ := hSw
        go_simp
        try with_reducible rfl
      try simp only [List.getElem_toArray, List.getElem_cons_succ, List.getElem_cons_zero, Act.put, List.setIfInBounds_toArray, List.set_cons_zero, List.set_cons_succ]
      refine wpAnyH_take (i := 6) (v := ?_) rfl (by kernel_rfl) (by kernel_rfl) (by kernel_rfl) (fun _ _ _ h => h) (Or.inl ⟨by rfl, ?_⟩) (by assumption) ?_
      rotate_left
      · intro w' hSw
        obtain ⟨s0, s1, s2, s3, s4, s5, s6, s7, s8, s9, s10, s11, s12, s13, s14, s15, s16, s17, s18, s19, s20, s21⟩ := hSw
        go_simp
        try with_reducible rfl
      try simp only [List.getElem_toArray, List.getElem_cons_succ, List.getElem_cons_zero, Act.put, List.setIfInBounds_toArray, List.set_cons_zero, List.set_cons_succ]
      refine wpAnyH_ready (rs := [5]) (by kernel_rfl) (by simp) ?_
      refine AllReadyH.cons rfl (fun K hK => ?_) AllReadyH.nil
      go_simp
      refine (Plain_any m2 A2 c2 B2 d2 _).mono ?_
      rintro e w12 ⟨rfl, hB_⟩
      simp only [msgA]
      have hB12 := Lib.hid (bnext hBd9.out hB_)
      clear hB_
      refine hK.out _ _ (hSf.out _ hB12.out) (fun hS1 => ?_)
      clear hK K
      try simp only [List.getElem_toArray, List.getElem_cons_succ, List.getElem_cons_zero, Act.put, List.setIfInBounds_toArray, List.set_cons_zero, List.set_cons_succ]
      refine wpAnyH_ready (rs := [7]) (by kernel_rfl) (by simp) ?_
      refine AllReadyH.cons rfl (fun K hK => ?_) AllReadyH.nil
      go_simp
      refine (Same_any m2 A2 c2 B2 d2 m2 A3 c3 B3 d3 _ (hMa.out.below hB12.out) (hMb.out.below hB12.out)).mono ?_
      rintro e w13 ⟨b, rfl, hbt_, hB_⟩
      obtain rfl : b = true := hbt_.2 rfl
      have hB13 := Lib.hid (bnext hB12.out hB_)
      clear hB_ hbt_
      refine hK.out _ _ (hSf.out _ hB13.out) (fun hS2 => ?_)
      clear hK K
      try simp only [List.getElem_toArray, List.getElem_cons_succ, List.getElem_cons_zero, Act.put, List.setIfInBounds_toArray, List.set_cons_zero, List.set_cons_succ]
      refine wpAnyH_take (i := 8) (v := ?_) rfl (by kernel_rfl) (by kernel_rfl) (by kernel_rfl) (fun _ _ _ h => h) (Or.inl ⟨by rfl, ?_⟩) (by assumption) ?_
      rotate_left
      · intro w' hSw
        obtain ⟨s0, s1, s2, s3, s4, s5, s6, s7, s8, s9, s10, s11, s12, s13, s14, s15, s16, s17, s18, s19, s20, s21⟩ := hSw
        go_simp
        try with_reducible rfl
      try simp only [List.getElem_toArray, List.getElem_cons_succ, List.getElem_cons_zero, Act.put, List.setIfInBounds_toArray, List.set_cons_zero, List.set_cons_succ]
      refine wpAnyH_take (i := 9) (v := ?_) rfl (by kernel_rfl) (by kernel_rfl) (by kernel_rfl) (fun _ _ _ h => h) (Or.inl ⟨by rfl, ?_⟩) (by assumption) ?_
      rotate_left
      · intro w' hSw
        obtain ⟨s0, s1, s2, s3, s4, s5, s6, s7, s8, s9, s10, s11, s12, s13, s14, s15, s16, s17, s18, s19, s20, s21⟩ := hSw
        go_simp
        try with_reducible rfl
      try simp only [List.getElem_toArray, List.getElem_cons_succ, List.getElem_cons_zero, Act.put, List.setIfInBounds_toArray, List.set_cons_zero, List.set_cons_succ]
      refine wpAnyH_done (by kernel_rfl) ?_ _
      refine NoPanic.normal ?_
      clear hS0 hS1 hS2
      go_wp2_with fail
      go_ret
      exact ⟨rfl, _, _, hI9.out.later hB13.out, hg2.out⟩
  · as_aux_lemma =>
      go_wp2_with fail
      generalize w4.alloc (.cells #[.int .i64 m'.kind, .int .i64 m'.from_, .int .i64 m'.to_, .int .i64 m'.g, .int .i64 m'.node, .int .i64 m'.try_, .int .i64 m'.low, .int .i64 m'.code, .int .i64 m'.ticket, .slice x.A m'.told.length x.c, .slice B' m'.ops.length d'] 31) = W5 at *
      obtain ⟨code, ks2, hn_, hr_, hg2_⟩ := drop_pair (cz := cz) hgd.out p q i'
      have hn := Lib.hid hn_
      have hr := Lib.hid hr_
      have hg2 := Lib.hid hg2_
      clear hn_ hr_ hg2_
      have hI5d := Lib.hid (hI5.out.later (Below.refl _ W5).drew)
      have hb7d : Hid (W5.drew.heap[w.heap.size]? = some (.cells #[.int .i64 4, .bool near, .int .i64 x.m.kind, .int .i64 x.m.from_, .int .i64 x.m.to_, .int .i64 x.m.g, .int .i64 x.m.node, .int .i64 x.m.try_, .int .i64 x.m.low, .int .i64 x.m.code, .int .i64 x.m.ticket, .slice x.A x.m.told.length x.c, .slice x.B x.m.ops.length x.d, .int .i64 i', .int .i64 k'] 48 (0, 0))) := Lib.hid hb7.out
      refine wp_region_noPanic ?_
      refine wp_region_held_drew (S := fun V => V.cell? ⟨w.heap.size, 13, none⟩ = some (.int .i64 i') ∧ V.cell? ⟨w.heap.size, 14, none⟩ = some (.int .i64 k')) (by kernel_rfl) (⟨by rw [block_cell hb7d.out]; rfl, by rw [block_cell hb7d.out]; rfl⟩) (fun hS0 => ?_)
      refine wpAnyH_take (i := 0) (v := ?_) rfl (by kernel_rfl) (by kernel_rfl) (by kernel_rfl) (fun _ _ _ h => h) (Or.inl ⟨by rfl, ?_⟩) (by assumption) ?_
      rotate_left
      · intro w' hSw
        obtain ⟨q0, q1⟩ := hSw
        go_simp
        try with_reducible rfl
      try simp only [List.getElem_toArray, List.getElem_cons_succ, List.getElem_cons_zero, Act.put, List.setIfInBounds_toArray, List.set_cons_zero, List.set_cons_succ]
      refine wpAnyH_take (i := 1) (v := ?_) rfl (by kernel_rfl) (by kernel_rfl) (by kernel_rfl) (fun _ _ _ h => h) (Or.inl ⟨by rfl, ?_⟩) (by assumption) ?_
      rotate_left
      · intro w' hSw
        obtain ⟨q0, q1⟩ := hSw
        go_simp
        try with_reducible rfl
      try simp only [List.getElem_toArray, List.getElem_cons_succ, List.getElem_cons_zero, Act.put, List.setIfInBounds_toArray, List.set_cons_zero, List.set_cons_succ]
      refine wpAnyH_take (i := 2) (v := ?_) rfl (by kernel_rfl) (by kernel_rfl) (by kernel_rfl) (fun _ _ _ h => h) (Or.inl ⟨by rfl, ?_⟩) (by assumption) ?_
      rotate_left
      · intro w' hSw
        obtain ⟨q0, q1⟩ := hSw
        go_simp
        try with_reducible rfl
      try simp only [List.getElem_toArray, List.getElem_cons_succ, List.getElem_cons_zero, Act.put, List.setIfInBounds_toArray, List.set_cons_zero, List.set_cons_succ]
      refine wpAnyH_take (i := 4) (v := ?_) rfl (by kernel_rfl) (by kernel_rfl) (by kernel_rfl) (fun _ _ _ h => h) (Or.inl ⟨by rfl, ?_⟩) (by assumption) ?_
      rotate_left
      · intro w' hSw
        obtain ⟨q0, q1⟩ := hSw
        go_simp
        try with_reducible rfl
      try simp only [List.getElem_toArray, List.getElem_cons_succ, List.getElem_cons_zero, Act.put, List.setIfInBounds_toArray, List.set_cons_zero, List.set_cons_succ]
      refine wpAnyH_take (i := 5) (v := ?_) rfl (by kernel_rfl) (by kernel_rfl) (by kernel_rfl) (fun _ _ _ h => h) (Or.inl ⟨by rfl, ?_⟩) (by assumption) ?_
      rotate_left
      · intro w' hSw
        obtain ⟨q0, q1⟩ := hSw
        go_simp
        try with_reducible rfl
      try simp only [List.getElem_toArray, List.getElem_cons_succ, List.getElem_cons_zero, Act.put, List.setIfInBounds_toArray, List.set_cons_zero, List.set_cons_succ]
      refine wpAnyH_take (i := 6) (v := ?_) rfl (by kernel_rfl) (by kernel_rfl) (by kernel_rfl) (fun _ _ _ h => h) (Or.inl ⟨by rfl, ?_⟩) (by assumption) ?_
      rotate_left
      · intro w' hSw
        obtain ⟨q0, q1⟩ := hSw
        go_simp
        try with_reducible rfl
      try simp only [List.getElem_toArray, List.getElem_cons_succ, List.getElem_cons_zero, Act.put, List.setIfInBounds_toArray, List.set_cons_zero, List.set_cons_succ]
      refine wpAnyH_ready (rs := [3]) (by kernel_rfl) (by simp) ?_
      refine AllReadyH.cons rfl (fun K hK => ?_) AllReadyH.nil
      go_simp
      refine (hn.out W5.drew (hH.out.1.below hI5d.out.below) hI5d.out.net).mono ?_
      rintro e w6 ⟨rfl, hN_, hK_⟩
      have hI6 := Lib.hid (hI5d.out.nstep hp.out hN_ hK_)
      have hb6 := Lib.hid (hI5d.out.nblock hK_ hb7d.out (by decide))
      clear hN_ hK_
      refine hK.out _ _ (⟨by rw [block_cell hb6.out]; rfl, by rw [block_cell hb6.out]; rfl⟩) (fun hS1 => ?_)
      clear hK K
      try simp only [List.getElem_toArray, List.getElem_cons_succ, List.getElem_cons_zero, Act.put, List.setIfInBounds_toArray, List.set_cons_zero, List.set_cons_succ]
      refine wpAnyH_ready (rs := [7]) (by kernel_rfl) (by simp) ?_
      refine AllReadyH.cons rfl (fun K hK => ?_) AllReadyH.nil
      go_simp
      refine (hr.out w6 hI6.out.ref).mono ?_
      rintro e w8 ⟨rfl, hR_, hK_⟩
      have hI8 := Lib.hid (hI6.out.rstep hq.out hR_ hK_)
      have hb8w := Lib.hid (hI6.out.rblock hK_ hb6.out (by decide))
      clear hR_ hK_
      refine hK.out _ _ (⟨by rw [block_cell hb8w.out]; rfl, by rw [block_cell hb8w.out]; rfl⟩) (fun hS2 => ?_)
      clear hK K
      try simp only [List.getElem_toArray, List.getElem_cons_succ, List.getElem_cons_zero, Act.put, List.setIfInBounds_toArray, List.set_cons_zero, List.set_cons_succ]
      refine wpAnyH_take (i := 8) (v := ?_) rfl (by kernel_rfl) (by kernel_rfl) (by kernel_rfl) (fun _ _ _ h => h) (Or.inl ⟨by rfl, ?_⟩) (by assumption) ?_
      rotate_left
      · intro w' hSw
        obtain ⟨q0, q1⟩ := hSw
        go_simp
        try with_reducible rfl
      try simp only [List.getElem_toArray, List.getElem_cons_succ, List.getElem_cons_zero, Act.put, List.setIfInBounds_toArray, List.set_cons_zero, List.set_cons_succ]
      refine wpAnyH_take (i := 9) (v := ?_) rfl (by kernel_rfl) (by kernel_rfl) (by kernel_rfl) (fun _ _ _ h => h) (Or.inl ⟨by rfl, ?_⟩) (by assumption) ?_
      rotate_left
      · intro w' hSw
        obtain ⟨q0, q1⟩ := hSw
        go_simp
        try with_reducible rfl
      try simp only [List.getElem_toArray, List.getElem_cons_succ, List.getElem_cons_zero, Act.put, List.setIfInBounds_toArray, List.set_cons_zero, List.set_cons_succ]
      refine wpAnyH_done (by kernel_rfl) ?_ _
      refine NoPanic.normal ?_
      go_wp2_with fail
      go_ret
      exact ⟨rfl, _, _, hI8.out, hg2.out⟩
  · as_aux_lemma =>
      go_wp2_with fail
      generalize w4.alloc (.cells #[.int .i64 m'.kind, .int .i64 m'.from_, .int .i64 m'.to_, .int .i64 m'.g, .int .i64 m'.node, .int .i64 m'.try_, .int .i64 m'.low, .int .i64 m'.code, .int .i64 m'.ticket, .slice x.A m'.told.length x.c, .slice B' m'.ops.length d'] 31) = W5 at *
      obtain ⟨code, ks2, hn_, hr_, hg2_⟩ := twice_pair (cz := cz) hgd.out p q i'
      have hn := Lib.hid hn_
      have hr := Lib.hid hr_
      have hg2 := Lib.hid hg2_
      clear hn_ hr_ hg2_
      have hI5d := Lib.hid (hI5.out.later (Below.refl _ W5).drew)
      have hb7d : Hid (W5.drew.heap[w.heap.size]? = some (.cells #[.int .i64 5, .bool near, .int .i64 x.m.kind, .int .i64 x.m.from_, .int .i64 x.m.to_, .int .i64 x.m.g, .int .i64 x.m.node, .int .i64 x.m.try_, .int .i64 x.m.low, .int .i64 x.m.code, .int .i64 x.m.ticket, .slice x.A x.m.told.length x.c, .slice x.B x.m.ops.length x.d, .int .i64 i', .int .i64 k'] 48 (0, 0))) := Lib.hid hb7.out
      refine wp_region_noPanic ?_
      refine wp_region_held_drew (S := fun V => V.cell? ⟨w.heap.size, 13, none⟩ = some (.int .i64 i') ∧ V.cell? ⟨w.heap.size, 14, none⟩ = some (.int .i64 k')) (by kernel_rfl) (⟨by rw [block_cell hb7d.out]; rfl, by rw [block_cell hb7d.out]; rfl⟩) (fun hS0 => ?_)
      refine wpAnyH_take (i := 0) (v := ?_) rfl (by kernel_rfl) (by kernel_rfl) (by kernel_rfl) (fun _ _ _ h => h) (Or.inl ⟨by rfl, ?_⟩) (by assumption) ?_
      rotate_left
      · intro w' hSw
        obtain ⟨q0, q1⟩ := hSw
        go_simp
        try with_reducible rfl
      try simp only [List.getElem_toArray, List.getElem_cons_succ, List.getElem_cons_zero, Act.put, List.setIfInBounds_toArray, List.set_cons_zero, List.set_cons_succ]
      refine wpAnyH_take (i := 1) (v := ?_) rfl (by kernel_rfl) (by kernel_rfl) (by kernel_rfl) (fun _ _ _ h => h) (Or.inl ⟨by rfl, ?_⟩) (by assumption) ?_
      rotate_left
      · intro w' hSw
        obtain ⟨q0, q1⟩ := hSw
        go_simp
        try with_reducible rfl
      try simp only [List.getElem_toArray, List.getElem_cons_succ, List.getElem_cons_zero, Act.put, List.setIfInBounds_toArray, List.set_cons_zero, List.set_cons_succ]
      refine wpAnyH_take (i := 2) (v := ?_) rfl (by kernel_rfl) (by kernel_rfl) (by kernel_rfl) (fun _ _ _ h => h) (Or.inl ⟨by rfl, ?_⟩) (by assumption) ?_
      rotate_left
      · intro w' hSw
        obtain ⟨q0, q1⟩ := hSw
        go_simp
        try with_reducible rfl
      try simp only [List.getElem_toArray, List.getElem_cons_succ, List.getElem_cons_zero, Act.put, List.setIfInBounds_toArray, List.set_cons_zero, List.set_cons_succ]
      refine wpAnyH_take (i := 4) (v := ?_) rfl (by kernel_rfl) (by kernel_rfl) (by kernel_rfl) (fun _ _ _ h => h) (Or.inl ⟨by rfl, ?_⟩) (by assumption) ?_
      rotate_left
      · intro w' hSw
        obtain ⟨q0, q1⟩ := hSw
        go_simp
        try with_reducible rfl
      try simp only [List.getElem_toArray, List.getElem_cons_succ, List.getElem_cons_zero, Act.put, List.setIfInBounds_toArray, List.set_cons_zero, List.set_cons_succ]
      refine wpAnyH_take (i := 5) (v := ?_) rfl (by kernel_rfl) (by kernel_rfl) (by kernel_rfl) (fun _ _ _ h => h) (Or.inl ⟨by rfl, ?_⟩) (by assumption) ?_
      rotate_left
      · intro w' hSw
        obtain ⟨q0, q1⟩ := hSw
        go_simp
        try with_reducible rfl
      try simp only [List.getElem_toArray, List.getElem_cons_succ, List.getElem_cons_zero, Act.put, List.setIfInBounds_toArray, List.set_cons_zero, List.set_cons_succ]
      refine wpAnyH_take (i := 6) (v := ?_) rfl (by kernel_rfl) (by kernel_rfl) (by kernel_rfl) (fun _ _ _ h => h) (Or.inl ⟨by rfl, ?_⟩) (by assumption) ?_
      rotate_left
      · intro w' hSw
        obtain ⟨q0, q1⟩ := hSw
        go_simp
        try with_reducible rfl
      try simp only [List.getElem_toArray, List.getElem_cons_succ, List.getElem_cons_zero, Act.put, List.setIfInBounds_toArray, List.set_cons_zero, List.set_cons_succ]
      refine wpAnyH_ready (rs := [3]) (by kernel_rfl) (by simp) ?_
      refine AllReadyH.cons rfl (fun K hK => ?_) AllReadyH.nil
      go_simp
      refine (hn.out W5.drew (hH.out.1.below hI5d.out.below) hI5d.out.net).mono ?_
      rintro e w6 ⟨rfl, hN_, hK_⟩
      have hI6 := Lib.hid (hI5d.out.nstep hp.out hN_ hK_)
      have hb6 := Lib.hid (hI5d.out.nblock hK_ hb7d.out (by decide))
      clear hN_ hK_
      refine hK.out _ _ (⟨by rw [block_cell hb6.out]; rfl, by rw [block_cell hb6.out]; rfl⟩) (fun hS1 => ?_)
      clear hK K
      try simp only [List.getElem_toArray, List.getElem_cons_succ, List.getElem_cons_zero, Act.put, List.setIfInBounds_toArray, List.set_cons_zero, List.set_cons_succ]
      refine wpAnyH_ready (rs := [7]) (by kernel_rfl) (by simp) ?_
      refine AllReadyH.cons rfl (fun K hK => ?_) AllReadyH.nil
      go_simp
      refine (hr.out w6 hI6.out.ref).mono ?_
      rintro e w8 ⟨rfl, hR_, hK_⟩
      have hI8 := Lib.hid (hI6.out.rstep hq.out hR_ hK_)
      have hb8w := Lib.hid (hI6.out.rblock hK_ hb6.out (by decide))
      clear hR_ hK_
      refine hK.out _ _ (⟨by rw [block_cell hb8w.out]; rfl, by rw [block_cell hb8w.out]; rfl⟩) (fun hS2 => ?_)
      clear hK K
      try simp only [List.getElem_toArray, List.getElem_cons_succ, List.getElem_cons_zero, Act.put, List.setIfInBounds_toArray, List.set_cons_zero, List.set_cons_succ]
      refine wpAnyH_take (i := 8) (v := ?_) rfl (by kernel_rfl) (by kernel_rfl) (by kernel_rfl) (fun _ _ _ h => h) (Or.inl ⟨by rfl, ?_⟩) (by assumption) ?_
      rotate_left
      · intro w' hSw
        obtain ⟨q0, q1⟩ := hSw
        go_simp
        try with_reducible rfl
      try simp only [List.getElem_toArray, List.getElem_cons_succ, List.getElem_cons_zero, Act.put, List.setIfInBounds_toArray, List.set_cons_zero, List.set_cons_succ]
      refine wpAnyH_take (i := 9) (v := ?_) rfl (by kernel_rfl) (by kernel_rfl) (by kernel_rfl) (fun _ _ _ h => h) (Or.inl ⟨by rfl, ?_⟩) (by assumption) ?_
      rotate_left
      · intro w' hSw
        obtain ⟨q0, q1⟩ := hSw
        go_simp
        try with_reducible rfl
      try simp only [List.getElem_toArray, List.getElem_cons_succ, List.getElem_cons_zero, Act.put, List.setIfInBounds_toArray, List.set_cons_zero, List.set_cons_succ]
      refine wpAnyH_done (by kernel_rfl) ?_ _
      refine NoPanic.normal ?_
      go_wp2_with fail
      go_ret
      exact ⟨rfl, _, _, hI8.out, hg2.out⟩
  · as_aux_lemma =>
      go_wp2_with fail
      generalize w4.alloc (.cells #[.int .i64 m'.kind, .int .i64 m'.from_, .int .i64 m'.to_, .int .i64 m'.g, .int .i64 m'.node, .int .i64 m'.try_, .int .i64 m'.low, .int .i64 m'.code, .int .i64 m'.ticket, .slice x.A m'.told.length x.c, .slice B' m'.ops.length d'] 31) = W5 at *
      obtain ⟨code, ks2, hn_, hr_, hg2_⟩ := move_pair (cz := cz) hgd.out p q i' k'
      have hn := Lib.hid hn_
      have hr := Lib.hid hr_
      have hg2 := Lib.hid hg2_
      clear hn_ hr_ hg2_
      have hI5d := Lib.hid (hI5.out.later (Below.refl _ W5).drew)
      have hb7d : Hid (W5.drew.heap[w.heap.size]? = some (.cells #[.int .i64 6, .bool near, .int .i64 x.m.kind, .int .i64 x.m.from_, .int .i64 x.m.to_, .int .i64 x.m.g, .int .i64 x.m.node, .int .i64 x.m.try_, .int .i64 x.m.low, .int .i64 x.m.code, .int .i64 x.m.ticket, .slice x.A x.m.told.length x.c, .slice x.B x.m.ops.length x.d, .int .i64 i', .int .i64 k'] 48 (0, 0))) := Lib.hid hb7.out
      refine wp_region_noPanic ?_
      refine wp_region_held_drew (S := fun V => V.cell? ⟨w.heap.size, 13, none⟩ = some (.int .i64 i') ∧ V.cell? ⟨w.heap.size, 14, none⟩ = some (.int .i64 k')) (by kernel_rfl) (⟨by rw [block_cell hb7d.out]; rfl, by rw [block_cell hb7d.out]; rfl⟩) (fun hS0 => ?_)
      refine wpAnyH_take (i := 0) (v := ?_) rfl (by kernel_rfl) (by kernel_rfl) (by kernel_rfl) (fun _ _ _ h => h) (Or.inl ⟨by rfl, ?_⟩) (by assumption) ?_
      rotate_left
      · intro w' hSw
        obtain ⟨q0, q1⟩ := hSw
        go_simp
        try with_reducible rfl
      try simp only [List.getElem_toArray, List.getElem_cons_succ, List.getElem_cons_zero, Act.put, List.setIfInBounds_toArray, List.set_cons_zero, List.set_cons_succ]
      refine wpAnyH_take (i := 1) (v := ?_) rfl (by kernel_rfl) (by kernel_rfl) (by kernel_rfl) (fun _ _ _ h => h) (Or.inl ⟨by rfl, ?_⟩) (by assumption) ?_
      rotate_left
      · intro w' hSw
        obtain ⟨q0, q1⟩ := hSw
        go_simp
        try with_reducible rfl
      try simp only [List.getElem_toArray, List.getElem_cons_succ, List.getElem_cons_zero, Act.put, List.setIfInBounds_toArray, List.set_cons_zero, List.set_cons_succ]
      refine wpAnyH_take (i := 2) (v := ?_) rfl (by kernel_rfl) (by kernel_rfl) (by kernel_rfl) (fun _ _ _ h => h) (Or.inl ⟨by rfl, ?_⟩) (by assumption) ?_
      rotate_left
      · intro w' hSw
        obtain ⟨q0, q1⟩ := hSw
        go_simp
        try with_reducible rfl
      try simp only [List.getElem_toArray, List.getElem_cons_succ, List.getElem_cons_zero, Act.put, List.setIfInBounds_toArray, List.set_cons_zero, List.set_cons_succ]
      refine wpAnyH_take (i := 3) (v := ?_) rfl (by kernel_rfl) (by kernel_rfl) (by kernel_rfl) (fun _ _ _ h => h) (Or.inl ⟨by rfl, ?_⟩) (by assumption) ?_
      rotate_left
      · intro w' hSw
        obtain ⟨q0, q1⟩ := hSw
        go_simp
        try with_reducible rfl
      try simp only [List.getElem_toArray, List.getElem_cons_succ, List.getElem_cons_zero, Act.put, List.setIfInBounds_toArray, List.set_cons_zero, List.set_cons_succ]
      refine wpAnyH_take (i := 4) (v := ?_) rfl (by kernel_rfl) (by kernel_rfl) (by kernel_rfl) (fun _ _ _ h => h) (Or.inl ⟨by rfl, ?_⟩) (by assumption) ?_
      rotate_left
      · intro w' hSw
        obtain ⟨q0, q1⟩ := hSw
        go_simp
        try with_reducible rfl
      try simp only [List.getElem_toArray, List.getElem_cons_succ, List.getElem_cons_zero, Act.put, List.setIfInBounds_toArray, List.set_cons_zero, List.set_cons_succ]
      refine wpAnyH_take (i := 6) (v := ?_) rfl (by kernel_rfl) (by kernel_rfl) (by kernel_rfl) (fun _ _ _ h => h) (Or.inl ⟨by rfl, ?_⟩) (by assumption) ?_
      rotate_left
      · intro w' hSw
        obtain ⟨q0, q1⟩ := hSw
        go_simp
        try with_reducible rfl
      try simp only [List.getElem_toArray, List.getElem_cons_succ, List.getElem_cons_zero, Act.put, List.setIfInBounds_toArray, List.set_cons_zero, List.set_cons_succ]
      refine wpAnyH_take (i := 7) (v := ?_) rfl (by kernel_rfl) (by kernel_rfl) (by kernel_rfl) (fun _ _ _ h => h) (Or.inl ⟨by rfl, ?_⟩) (by assumption) ?_
      rotate_left
      · intro w' hSw
        obtain ⟨q0, q1⟩ := hSw
        go_simp
        try with_reducible rfl
      try simp only [List.getElem_toArray, List.getElem_cons_succ, List.getElem_cons_zero, Act.put, List.setIfInBounds_toArray, List.set_cons_zero, List.set_cons_succ]
      refine wpAnyH_take (i := 8) (v := ?_) rfl (by kernel_rfl) (by kernel_rfl) (by kernel_rfl) (fun _ _ _ h => h) (Or.inl ⟨by rfl, ?_⟩) (by assumption) ?_
      rotate_left
      · intro w' hSw
        obtain ⟨q0, q1⟩ := hSw
        go_simp
        try with_reducible rfl
      try simp only [List.getElem_toArray, List.getElem_cons_succ, List.getElem_cons_zero, Act.put, List.setIfInBounds_toArray, List.set_cons_zero, List.set_cons_succ]
      refine wpAnyH_take (i := 9) (v := ?_) rfl (by kernel_rfl) (by kernel_rfl) (by kernel_rfl) (fun _ _ _ h => h) (Or.inl ⟨by rfl, ?_⟩) (by assumption) ?_
      rotate_left
      · intro w' hSw
        obtain ⟨q0, q1⟩ := hSw
        go_simp
        try with_reducible rfl
      try simp only [List.getElem_toArray, List.getElem_cons_succ, List.getElem_cons_zero, Act.put, List.setIfInBounds_toArray, List.set_cons_zero, List.set_cons_succ]
      refine wpAnyH_take (i := 10) (v := ?_) rfl (by kernel_rfl) (by kernel_rfl) (by kernel_rfl) (fun _ _ _ h => h) (Or.inl ⟨by rfl, ?_⟩) (by assumption) ?_
      rotate_left
      · intro w' hSw
        obtain ⟨q0, q1⟩ := hSw
        go_simp
        try with_reducible rfl
      try simp only [List.getElem_toArray, List.getElem_cons_succ, List.getElem_cons_zero, Act.put, List.setIfInBounds_toArray, List.set_cons_zero, List.set_cons_succ]
      refine wpAnyH_ready (rs := [5]) (by kernel_rfl) (by simp) ?_
      refine AllReadyH.cons rfl (fun K hK => ?_) AllReadyH.nil
      go_simp
      refine (hn.out W5.drew (hH.out.1.below hI5d.out.below) hI5d.out.net).mono ?_
      rintro e w6 ⟨rfl, hN_, hK_⟩
      have hI6 := Lib.hid (hI5d.out.nstep hp.out hN_ hK_)
      have hb6 := Lib.hid (hI5d.out.nblock hK_ hb7d.out (by decide))
      clear hN_ hK_
      refine hK.out _ _ (⟨by rw [block_cell hb6.out]; rfl, by rw [block_cell hb6.out]; rfl⟩) (fun hS1 => ?_)
      clear hK K
      try simp only [List.getElem_toArray, List.getElem_cons_succ, List.getElem_cons_zero, Act.put, List.setIfInBounds_toArray, List.set_cons_zero, List.set_cons_succ]
      refine wpAnyH_ready (rs := [11]) (by kernel_rfl) (by simp) ?_
      refine AllReadyH.cons rfl (fun K hK => ?_) AllReadyH.nil
      go_simp
      refine (hr.out w6 hI6.out.ref).mono ?_
      rintro e w8 ⟨rfl, hR_, hK_⟩
      have hI8 := Lib.hid (hI6.out.rstep hq.out hR_ hK_)
      have hb8w := Lib.hid (hI6.out.rblock hK_ hb6.out (by decide))
      clear hR_ hK_
      refine hK.out _ _ (⟨by rw [block_cell hb8w.out]; rfl, by rw [block_cell hb8w.out]; rfl⟩) (fun hS2 => ?_)
      clear hK K
      try simp only [List.getElem_toArray, List.getElem_cons_succ, List.getElem_cons_zero, Act.put, List.setIfInBounds_toArray, List.set_cons_zero, List.set_cons_succ]
      refine wpAnyH_take (i := 12) (v := ?_) rfl (by kernel_rfl) (by kernel_rfl) (by kernel_rfl) (fun _ _ _ h => h) (Or.inl ⟨by rfl, ?_⟩) (by assumption) ?_
      rotate_left
      · intro w' hSw
        obtain ⟨q0, q1⟩ := hSw
        go_simp
        try with_reducible rfl
      try simp only [List.getElem_toArray, List.getElem_cons_succ, List.getElem_cons_zero, Act.put, List.setIfInBounds_toArray, List.set_cons_zero, List.set_cons_succ]
      refine wpAnyH_take (i := 13) (v := ?_) rfl (by kernel_rfl) (by kernel_rfl) (by kernel_rfl) (fun _ _ _ h => h) (Or.inl ⟨by rfl, ?_⟩) (by assumption) ?_
      rotate_left
      · intro w' hSw
        obtain ⟨q0, q1⟩ := hSw
        go_simp
        try with_reducible rfl
      try simp only [List.getElem_toArray, List.getElem_cons_succ, List.getElem_cons_zero, Act.put, List.setIfInBounds_toArray, List.set_cons_zero, List.set_cons_succ]
      refine wpAnyH_done (by kernel_rfl) ?_ _
      refine NoPanic.normal ?_
      go_wp2_with fail
      go_ret
      exact ⟨rfl, _, _, hI8.out, hg2.out⟩
  · as_aux_lemma =>
      go_wp2_with fail
      generalize w4.alloc (.cells #[.int .i64 m'.kind, .int .i64 m'.from_, .int .i64 m'.to_, .int .i64 m'.g, .int .i64 m'.node, .int .i64 m'.try_, .int .i64 m'.low, .int .i64 m'.code, .int .i64 m'.ticket, .slice x.A m'.told.length x.c, .slice B' m'.ops.length d'] 31) = W5 at *
      obtain ⟨code, ks2, hn_, hr_, hg2_⟩ := hold_pair (cz := cz) hgd.out p q i' k'
      have hn := Lib.hid hn_
      have hr := Lib.hid hr_
      have hg2 := Lib.hid hg2_
      clear hn_ hr_ hg2_
      have hI5d := Lib.hid (hI5.out.later (Below.refl _ W5).drew)
      have hb7d : Hid (W5.drew.heap[w.heap.size]? = some (.cells #[.int .i64 7, .bool near, .int .i64 x.m.kind, .int .i64 x.m.from_, .int .i64 x.m.to_, .int .i64 x.m.g, .int .i64 x.m.node, .int .i64 x.m.try_, .int .i64 x.m.low, .int .i64 x.m.code, .int .i64 x.m.ticket, .slice x.A x.m.told.length x.c, .slice x.B x.m.ops.length x.d, .int .i64 i', .int .i64 k'] 48 (0, 0))) := Lib.hid hb7.out
      refine wp_region_noPanic ?_
      refine wp_region_held_drew (S := fun V => V.cell? ⟨w.heap.size, 13, none⟩ = some (.int .i64 i') ∧ V.cell? ⟨w.heap.size, 14, none⟩ = some (.int .i64 k')) (by kernel_rfl) (⟨by rw [block_cell hb7d.out]; rfl, by rw [block_cell hb7d.out]; rfl⟩) (fun hS0 => ?_)
      refine wpAnyH_take (i := 0) (v := ?_) rfl (by kernel_rfl) (by kernel_rfl) (by kernel_rfl) (fun _ _ _ h => h) (Or.inl ⟨by rfl, ?_⟩) (by assumption) ?_
      rotate_left
      · intro w' hSw
        obtain ⟨q0, q1⟩ := hSw
        go_simp
        try with_reducible rfl
      try simp only [List.getElem_toArray, List.getElem_cons_succ, List.getElem_cons_zero, Act.put, List.setIfInBounds_toArray, List.set_cons_zero, List.set_cons_succ]
      refine wpAnyH_take (i := 1) (v := ?_) rfl (by kernel_rfl) (by kernel_rfl) (by kernel_rfl) (fun _ _ _ h => h) (Or.inl ⟨by rfl, ?_⟩) (by assumption) ?_
      rotate_left
      · intro w' hSw
        obtain ⟨q0, q1⟩ := hSw
        go_simp
        try with_reducible rfl
      try simp only [List.getElem_toArray, List.getElem_cons_succ, List.getElem_cons_zero, Act.put, List.setIfInBounds_toArray, List.set_cons_zero, List.set_cons_succ]
      refine wpAnyH_take (i := 2) (v := ?_) rfl (by kernel_rfl) (by kernel_rfl) (by kernel_rfl) (fun _ _ _ h => h) (Or.inl ⟨by rfl, ?_⟩) (by assumption) ?_
      rotate_left
      · intro w' hSw
        obtain ⟨q0, q1⟩ := hSw
        go_simp
        try with_reducible rfl
      try simp only [List.getElem_toArray, List.getElem_cons_succ, List.getElem_cons_zero, Act.put, List.setIfInBounds_toArray, List.set_cons_zero, List.set_cons_succ]
      refine wpAnyH_take (i := 3) (v := ?_) rfl (by kernel_rfl) (by kernel_rfl) (by kernel_rfl) (fun _ _ _ h => h) (Or.inl ⟨by rfl, ?_⟩) (by assumption) ?_
      rotate_left
      · intro w' hSw
        obtain ⟨q0, q1⟩ := hSw
        go_simp
        try with_reducible rfl
      try simp only [List.getElem_toArray, List.getElem_cons_succ, List.getElem_cons_zero, Act.put, List.setIfInBounds_toArray, List.set_cons_zero, List.set_cons_succ]
      refine wpAnyH_take (i := 4) (v := ?_) rfl (by kernel_rfl) (by kernel_rfl) (by kernel_rfl) (fun _ _ _ h => h) (Or.inl ⟨by rfl, ?_⟩) (by assumption) ?_
      rotate_left
      · intro w' hSw
        obtain ⟨q0, q1⟩ := hSw
        go_simp
        try with_reducible rfl
      try simp only [List.getElem_toArray, List.getElem_cons_succ, List.getElem_cons_zero, Act.put, List.setIfInBounds_toArray, List.set_cons_zero, List.set_cons_succ]
      refine wpAnyH_take (i := 6) (v := ?_) rfl (by kernel_rfl) (by kernel_rfl) (by kernel_rfl) (fun _ _ _ h => h) (Or.inl ⟨by rfl, ?_⟩) (by assumption) ?_
      rotate_left
      · intro w' hSw
        obtain ⟨q0, q1⟩ := hSw
        go_simp
        try with_reducible rfl
      try simp only [List.getElem_toArray, List.getElem_cons_succ, List.getElem_cons_zero, Act.put, List.setIfInBounds_toArray, List.set_cons_zero, List.set_cons_succ]
      refine wpAnyH_take (i := 7) (v := ?_) rfl (by kernel_rfl) (by kernel_rfl) (by kernel_rfl) (fun _ _ _ h => h) (Or.inl ⟨by rfl, ?_⟩) (by assumption) ?_
      rotate_left
      · intro w' hSw
        obtain ⟨q0, q1⟩ := hSw
        go_simp
        try with_reducible rfl
      try simp only [List.getElem_toArray, List.getElem_cons_succ, List.getElem_cons_zero, Act.put, List.setIfInBounds_toArray, List.set_cons_zero, List.set_cons_succ]
      refine wpAnyH_take (i := 8) (v := ?_) rfl (by kernel_rfl) (by kernel_rfl) (by kernel_rfl) (fun _ _ _ h => h) (Or.inl ⟨by rfl, ?_⟩) (by assumption) ?_
      rotate_left
      · intro w' hSw
        obtain ⟨q0, q1⟩ := hSw
        go_simp
        try with_reducible rfl
      try simp only [List.getElem_toArray, List.getElem_cons_succ, List.getElem_cons_zero, Act.put, List.setIfInBounds_toArray, List.set_cons_zero, List.set_cons_succ]
      refine wpAnyH_take (i := 9) (v := ?_) rfl (by kernel_rfl) (by kernel_rfl) (by kernel_rfl) (fun _ _ _ h => h) (Or.inl ⟨by rfl, ?_⟩) (by assumption) ?_
      rotate_left
      · intro w' hSw
        obtain ⟨q0, q1⟩ := hSw
        go_simp
        try with_reducible rfl
      try simp only [List.getElem_toArray, List.getElem_cons_succ, List.getElem_cons_zero, Act.put, List.setIfInBounds_toArray, List.set_cons_zero, List.set_cons_succ]
      refine wpAnyH_take (i := 10) (v := ?_) rfl (by kernel_rfl) (by kernel_rfl) (by kernel_rfl) (fun _ _ _ h => h) (Or.inl ⟨by rfl, ?_⟩) (by assumption) ?_
      rotate_left
      · intro w' hSw
        obtain ⟨q0, q1⟩ := hSw
        go_simp
        try with_reducible rfl
      try simp only [List.getElem_toArray, List.getElem_cons_succ, List.getElem_cons_zero, Act.put, List.setIfInBounds_toArray, List.set_cons_zero, List.set_cons_succ]
      refine wpAnyH_ready (rs := [5]) (by kernel_rfl) (by simp) ?_
      refine AllReadyH.cons rfl (fun K hK => ?_) AllReadyH.nil
      go_simp
      refine (hn.out W5.drew (hH.out.1.below hI5d.out.below) hI5d.out.net).mono ?_
      rintro e w6 ⟨rfl, hN_, hK_⟩
      have hI6 := Lib.hid (hI5d.out.nstep hp.out hN_ hK_)
      have hb6 := Lib.hid (hI5d.out.nblock hK_ hb7d.out (by decide))
      clear hN_ hK_
      refine hK.out _ _ (⟨by rw [block_cell hb6.out]; rfl, by rw [block_cell hb6.out]; rfl⟩) (fun hS1 => ?_)
      clear hK K
      try simp only [List.getElem_toArray, List.getElem_cons_succ, List.getElem_cons_zero, Act.put, List.setIfInBounds_toArray, List.set_cons_zero, List.set_cons_succ]
      refine wpAnyH_ready (rs := [11]) (by kernel_rfl) (by simp) ?_
      refine AllReadyH.cons rfl (fun K hK => ?_) AllReadyH.nil
      go_simp
      refine (hr.out w6 hI6.out.ref).mono ?_
      rintro e w8 ⟨rfl, hR_, hK_⟩
      have hI8 := Lib.hid (hI6.out.rstep hq.out hR_ hK_)
      have hb8w := Lib.hid (hI6.out.rblock hK_ hb6.out (by decide))
      clear hR_ hK_
      refine hK.out _ _ (⟨by rw [block_cell hb8w.out]; rfl, by rw [block_cell hb8w.out]; rfl⟩) (fun hS2 => ?_)
      clear hK K
      try simp only [List.getElem_toArray, List.getElem_cons_succ, List.getElem_cons_zero, Act.put, List.setIfInBounds_toArray, List.set_cons_zero, List.set_cons_succ]
      refine wpAnyH_take (i := 12) (v := ?_) rfl (by kernel_rfl) (by kernel_rfl) (by kernel_rfl) (fun _ _ _ h => h) (Or.inl ⟨by rfl, ?_⟩) (by assumption) ?_
      rotate_left
      · intro w' hSw
        obtain ⟨q0, q1⟩ := hSw
        go_simp
        try with_reducible rfl
      try simp only [List.getElem_toArray, List.getElem_cons_succ, List.getElem_cons_zero, Act.put, List.setIfInBounds_toArray, List.set_cons_zero, List.set_cons_succ]
      refine wpAnyH_take (i := 13) (v := ?_) rfl (by kernel_rfl) (by kernel_rfl) (by kernel_rfl) (fun _ _ _ h => h) (Or.inl ⟨by rfl, ?_⟩) (by assumption) ?_
      rotate_left
      · intro w' hSw
        obtain ⟨q0, q1⟩ := hSw
        go_simp
        try with_reducible rfl
      try simp only [List.getElem_toArray, List.getElem_cons_succ, List.getElem_cons_zero, Act.put, List.setIfInBounds_toArray, List.set_cons_zero, List.set_cons_succ]
      refine wpAnyH_done (by kernel_rfl) ?_ _
      refine NoPanic.normal ?_
      go_wp2_with fail
      go_ret
      exact ⟨rfl, _, _, hI8.out, hg2.out⟩
  · as_aux_lemma =>
      go_wp2_with fail
      generalize w4.alloc (.cells #[.int .i64 m'.kind, .int .i64 m'.from_, .int .i64 m'.to_, .int .i64 m'.g, .int .i64 m'.node, .int .i64 m'.try_, .int .i64 m'.low, .int .i64 m'.code, .int .i64 m'.ticket, .slice x.A m'.told.length x.c, .slice B' m'.ops.length d'] 31) = W5 at *
      obtain ⟨code, ks2, hn_, hr_, hg2_⟩ := spoil_pair (cz := cz) hgd.out p q i' k'
      have hn := Lib.hid hn_
      have hr := Lib.hid hr_
      have hg2 := Lib.hid hg2_
      clear hn_ hr_ hg2_
      have hI5d := Lib.hid (hI5.out.later (Below.refl _ W5).drew)
      have hb7d : Hid (W5.drew.heap[w.heap.size]? = some (.cells #[.int .i64 8, .bool near, .int .i64 x.m.kind, .int .i64 x.m.from_, .int .i64 x.m.to_, .int .i64 x.m.g, .int .i64 x.m.node, .int .i64 x.m.try_, .int .i64 x.m.low, .int .i64 x.m.code, .int .i64 x.m.ticket, .slice x.A x.m.told.length x.c, .slice x.B x.m.ops.length x.d, .int .i64 i', .int .i64 k'] 48 (0, 0))) := Lib.hid hb7.out
      refine wp_region_noPanic ?_
      refine wp_region_held_drew (S := fun V => V.cell? ⟨w.heap.size, 13, none⟩ = some (.int .i64 i') ∧ V.cell? ⟨w.heap.size, 14, none⟩ = some (.int .i64 k')) (by kernel_rfl) (⟨by rw [block_cell hb7d.out]; rfl, by rw [block_cell hb7d.out]; rfl⟩) (fun hS0 => ?_)
      refine wpAnyH_take (i := 0) (v := ?_) rfl (by kernel_rfl) (by kernel_rfl) (by kernel_rfl) (fun _ _ _ h => h) (Or.inl ⟨by rfl, ?_⟩) (by assumption) ?_
      rotate_left
      · intro w' hSw
        obtain ⟨q0, q1⟩ := hSw
        go_simp
        try with_reducible rfl
      try simp only [List.getElem_toArray, List.getElem_cons_succ, List.getElem_cons_zero, Act.put, List.setIfInBounds_toArray, List.set_cons_zero, List.set_cons_succ]
      refine wpAnyH_take (i := 1) (v := ?_) rfl (by kernel_rfl) (by kernel_rfl) (by kernel_rfl) (fun _ _ _ h => h) (Or.inl ⟨by rfl, ?_⟩) (by assumption) ?_
      rotate_left
      · intro w' hSw
        obtain ⟨q0, q1⟩ := hSw
        go_simp
        try with_reducible rfl
      try simp only [List.getElem_toArray, List.getElem_cons_succ, List.getElem_cons_zero, Act.put, List.setIfInBounds_toArray, List.set_cons_zero, List.set_cons_succ]
      refine wpAnyH_take (i := 2) (v := ?_) rfl (by kernel_rfl) (by kernel_rfl) (by kernel_rfl) (fun _ _ _ h => h) (Or.inl ⟨by rfl, ?_⟩) (by assumption) ?_
      rotate_left
      · intro w' hSw
        obtain ⟨q0, q1⟩ := hSw
        go_simp
        try with_reducible rfl
      try simp only [List.getElem_toArray, List.getElem_cons_succ, List.getElem_cons_zero, Act.put, List.setIfInBounds_toArray, List.set_cons_zero, List.set_cons_succ]
      refine wpAnyH_take (i := 3) (v := ?_) rfl (by kernel_rfl) (by kernel_rfl) (by kernel_rfl) (fun _ _ _ h => h) (Or.inl ⟨by rfl, ?_⟩) (by assumption) ?_
      rotate_left
      · intro w' hSw
        obtain ⟨q0, q1⟩ := hSw
        go_simp
        try with_reducible rfl
      try simp only [List.getElem_toArray, List.getElem_cons_succ, List.getElem_cons_zero, Act.put, List.setIfInBounds_toArray, List.set_cons_zero, List.set_cons_succ]
      refine wpAnyH_take (i := 4) (v := ?_) rfl (by kernel_rfl) (by kernel_rfl) (by kernel_rfl) (fun _ _ _ h => h) (Or.inl ⟨by rfl, ?_⟩) (by assumption) ?_
      rotate_left
      · intro w' hSw
        obtain ⟨q0, q1⟩ := hSw
        go_simp
        try with_reducible rfl
      try simp only [List.getElem_toArray, List.getElem_cons_succ, List.getElem_cons_zero, Act.put, List.setIfInBounds_toArray, List.set_cons_zero, List.set_cons_succ]
      refine wpAnyH_take (i := 6) (v := ?_) rfl (by kernel_rfl) (by kernel_rfl) (by kernel_rfl) (fun _ _ _ h => h) (Or.inl ⟨by rfl, ?_⟩) (by assumption) ?_
      rotate_left
      · intro w' hSw
        obtain ⟨q0, q1⟩ := hSw
        go_simp
        try with_reducible rfl
      try simp only [List.getElem_toArray, List.getElem_cons_succ, List.getElem_cons_zero, Act.put, List.setIfInBounds_toArray, List.set_cons_zero, List.set_cons_succ]
      refine wpAnyH_take (i := 7) (v := ?_) rfl (by kernel_rfl) (by kernel_rfl) (by kernel_rfl) (fun _ _ _ h => h) (Or.inl ⟨by rfl, ?_⟩) (by assumption) ?_
      rotate_left
      · intro w' hSw
        obtain ⟨q0, q1⟩ := hSw
        go_simp
        try with_reducible rfl
      try simp only [List.getElem_toArray, List.getElem_cons_succ, List.getElem_cons_zero, Act.put, List.setIfInBounds_toArray, List.set_cons_zero, List.set_cons_succ]
      refine wpAnyH_take (i := 8) (v := ?_) rfl (by kernel_rfl) (by kernel_rfl) (by kernel_rfl) (fun _ _ _ h => h) (Or.inl ⟨by rfl, ?_⟩) (by assumption) ?_
      rotate_left
      · intro w' hSw
        obtain ⟨q0, q1⟩ := hSw
        go_simp
        try with_reducible rfl
      try simp only [List.getElem_toArray, List.getElem_cons_succ, List.getElem_cons_zero, Act.put, List.setIfInBounds_toArray, List.set_cons_zero, List.set_cons_succ]
      refine wpAnyH_take (i := 9) (v := ?_) rfl (by kernel_rfl) (by kernel_rfl) (by kernel_rfl) (fun _ _ _ h => h) (Or.inl ⟨by rfl, ?_⟩) (by assumption) ?_
      rotate_left
      · intro w' hSw
        obtain ⟨q0, q1⟩ := hSw
        go_simp
        try with_reducible rfl
      try simp only [List.getElem_toArray, List.getElem_cons_succ, List.getElem_cons_zero, Act.put, List.setIfInBounds_toArray, List.set_cons_zero, List.set_cons_succ]
      refine wpAnyH_take (i := 10) (v := ?_) rfl (by kernel_rfl) (by kernel_rfl) (by kernel_rfl) (fun _ _ _ h => h) (Or.inl ⟨by rfl, ?_⟩) (by assumption) ?_
      rotate_left
      · intro w' hSw
        obtain ⟨q0, q1⟩ := hSw
        go_simp
        try with_reducible rfl
      try simp only [List.getElem_toArray, List.getElem_cons_succ, List.getElem_cons_zero, Act.put, List.setIfInBounds_toArray, List.set_cons_zero, List.set_cons_succ]
      refine wpAnyH_ready (rs := [5]) (by kernel_rfl) (by simp) ?_
      refine AllReadyH.cons rfl (fun K hK => ?_) AllReadyH.nil
      go_simp
      refine (hn.out W5.drew (hH.out.1.below hI5d.out.below) hI5d.out.net).mono ?_
      rintro e w6 ⟨rfl, hN_, hK_⟩
      have hI6 := Lib.hid (hI5d.out.nstep hp.out hN_ hK_)
      have hb6 := Lib.hid (hI5d.out.nblock hK_ hb7d.out (by decide))
      clear hN_ hK_
      refine hK.out _ _ (⟨by rw [block_cell hb6.out]; rfl, by rw [block_cell hb6.out]; rfl⟩) (fun hS1 => ?_)
      clear hK K
      try simp only [List.getElem_toArray, List.getElem_cons_succ, List.getElem_cons_zero, Act.put, List.setIfInBounds_toArray, List.set_cons_zero, List.set_cons_succ]
      refine wpAnyH_ready (rs := [11]) (by kernel_rfl) (by simp) ?_
      refine AllReadyH.cons rfl (fun K hK => ?_) AllReadyH.nil
      go_simp
      refine (hr.out w6 hI6.out.ref).mono ?_
      rintro e w8 ⟨rfl, hR_, hK_⟩
      have hI8 := Lib.hid (hI6.out.rstep hq.out hR_ hK_)
      have hb8w := Lib.hid (hI6.out.rblock hK_ hb6.out (by decide))
      clear hR_ hK_
      refine hK.out _ _ (⟨by rw [block_cell hb8w.out]; rfl, by rw [block_cell hb8w.out]; rfl⟩) (fun hS2 => ?_)
      clear hK K
      try simp only [List.getElem_toArray, List.getElem_cons_succ, List.getElem_cons_zero, Act.put, List.setIfInBounds_toArray, List.set_cons_zero, List.set_cons_succ]
      refine wpAnyH_take (i := 12) (v := ?_) rfl (by kernel_rfl) (by kernel_rfl) (by kernel_rfl) (fun _ _ _ h => h) (Or.inl ⟨by rfl, ?_⟩) (by assumption) ?_
      rotate_left
      · intro w' hSw
        obtain ⟨q0, q1⟩ := hSw
        go_simp
        try with_reducible rfl
      try simp only [List.getElem_toArray, List.getElem_cons_succ, List.getElem_cons_zero, Act.put, List.setIfInBounds_toArray, List.set_cons_zero, List.set_cons_succ]
      refine wpAnyH_take (i := 13) (v := ?_) rfl (by kernel_rfl) (by kernel_rfl) (by kernel_rfl) (fun _ _ _ h => h) (Or.inl ⟨by rfl, ?_⟩) (by assumption) ?_
      rotate_left
      · intro w' hSw
        obtain ⟨q0, q1⟩ := hSw
        go_simp
        try with_reducible rfl
      try simp only [List.getElem_toArray, List.getElem_cons_succ, List.getElem_cons_zero, Act.put, List.setIfInBounds_toArray, List.set_cons_zero, List.set_cons_succ]
      refine wpAnyH_done (by kernel_rfl) ?_ _
      refine NoPanic.normal ?_
      go_wp2_with fail
      go_ret
      exact ⟨rfl, _, _, hI8.out, hg2.out⟩
  · as_aux_lemma =>
      go_wp2_with fail
      generalize w4.alloc (.cells #[.int .i64 m'.kind, .int .i64 m'.from_, .int .i64 m'.to_, .int .i64 m'.g, .int .i64 m'.node, .int .i64 m'.try_, .int .i64 m'.low, .int .i64 m'.code, .int .i64 m'.ticket, .slice x.A m'.told.length x.c, .slice B' m'.ops.length d'] 31) = W5 at *
      obtain ⟨code, c2, hn_, hr_⟩ := part_pair (cz := cz) most ks p q i'
      have hn := Lib.hid hn_
      have hr := Lib.hid hr_
      clear hn_ hr_
      have hI5d := Lib.hid (hI5.out.later (Below.refl _ W5).drew)
      have hb7d : Hid (W5.drew.heap[w.heap.size]? = some (.cells #[.int .i64 9, .bool near, .int .i64 x.m.kind, .int .i64 x.m.from_, .int .i64 x.m.to_, .int .i64 x.m.g, .int .i64 x.m.node, .int .i64 x.m.try_, .int .i64 x.m.low, .int .i64 x.m.code, .int .i64 x.m.ticket, .slice x.A x.m.told.length x.c, .slice x.B x.m.ops.length x.d, .int .i64 i', .int .i64 k'] 48 (0, 0))) := Lib.hid hb7.out
      refine wp_region_noPanic ?_
      refine wp_region_held_drew (S := fun V => V.cell? ⟨w.heap.size, 13, none⟩ = some (.int .i64 i') ∧ V.cell? ⟨w.heap.size, 14, none⟩ = some (.int .i64 k')) (by kernel_rfl) (⟨by rw [block_cell hb7d.out]; rfl, by rw [block_cell hb7d.out]; rfl⟩) (fun hS0 => ?_)
      refine wpAnyH_take (i := 0) (v := ?_) rfl (by kernel_rfl) (by kernel_rfl) (by kernel_rfl) (fun _ _ _ h => h) (Or.inl ⟨by rfl, ?_⟩) (by assumption) ?_
      rotate_left
      · intro w' hSw
        obtain ⟨q0, q1⟩ := hSw
        go_simp
        try with_reducible rfl
      try simp only [List.getElem_toArray, List.getElem_cons_succ, List.getElem_cons_zero, Act.put, List.setIfInBounds_toArray, List.set_cons_zero, List.set_cons_succ]
      refine wpAnyH_take (i := 1) (v := ?_) rfl (by kernel_rfl) (by kernel_rfl) (by kernel_rfl) (fun _ _ _ h => h) (Or.inl ⟨by rfl, ?_⟩) (by assumption) ?_
      rotate_left
      · intro w' hSw
        obtain ⟨q0, q1⟩ := hSw
        go_simp
        try with_reducible rfl
      try simp only [List.getElem_toArray, List.getElem_cons_succ, List.getElem_cons_zero, Act.put, List.setIfInBounds_toArray, List.set_cons_zero, List.set_cons_succ]
      refine wpAnyH_take (i := 2) (v := ?_) rfl (by kernel_rfl) (by kernel_rfl) (by kernel_rfl) (fun _ _ _ h => h) (Or.inl ⟨by rfl, ?_⟩) (by assumption) ?_
      rotate_left
      · intro w' hSw
        obtain ⟨q0, q1⟩ := hSw
        go_simp
        try with_reducible rfl
      try simp only [List.getElem_toArray, List.getElem_cons_succ, List.getElem_cons_zero, Act.put, List.setIfInBounds_toArray, List.set_cons_zero, List.set_cons_succ]
      refine wpAnyH_take (i := 4) (v := ?_) rfl (by kernel_rfl) (by kernel_rfl) (by kernel_rfl) (fun _ _ _ h => h) (Or.inl ⟨by rfl, ?_⟩) (by assumption) ?_
      rotate_left
      · intro w' hSw
        obtain ⟨q0, q1⟩ := hSw
        go_simp
        try with_reducible rfl
      try simp only [List.getElem_toArray, List.getElem_cons_succ, List.getElem_cons_zero, Act.put, List.setIfInBounds_toArray, List.set_cons_zero, List.set_cons_succ]
      refine wpAnyH_take (i := 5) (v := ?_) rfl (by kernel_rfl) (by kernel_rfl) (by kernel_rfl) (fun _ _ _ h => h) (Or.inl ⟨by rfl, ?_⟩) (by assumption) ?_
      rotate_left
      · intro w' hSw
        obtain ⟨q0, q1⟩ := hSw
        go_simp
        try with_reducible rfl
      try simp only [List.getElem_toArray, List.getElem_cons_succ, List.getElem_cons_zero, Act.put, List.setIfInBounds_toArray, List.set_cons_zero, List.set_cons_succ]
      refine wpAnyH_take (i := 6) (v := ?_) rfl (by kernel_rfl) (by kernel_rfl) (by kernel_rfl) (fun _ _ _ h => h) (Or.inl ⟨by rfl, ?_⟩) (by assumption) ?_
      rotate_left
      · intro w' hSw
        obtain ⟨q0, q1⟩ := hSw
        go_simp
        try with_reducible rfl
      try simp only [List.getElem_toArray, List.getElem_cons_succ, List.getElem_cons_zero, Act.put, List.setIfInBounds_toArray, List.set_cons_zero, List.set_cons_succ]
      refine wpAnyH_ready (rs := [3]) (by kernel_rfl) (by simp) ?_
      refine AllReadyH.cons rfl (fun K hK => ?_) AllReadyH.nil
      go_simp
      refine (hn.out W5.drew (hH.out.1.below hI5d.out.below) hI5d.out.net).mono ?_
      rintro e w6 ⟨rfl, hN_, hK_⟩
      have hI6 := Lib.hid (hI5d.out.nstep hp.out hN_ hK_)
      have hb6 := Lib.hid (hI5d.out.nblock hK_ hb7d.out (by decide))
      clear hN_ hK_
      refine hK.out _ _ (⟨by rw [block_cell hb6.out]; rfl, by rw [block_cell hb6.out]; rfl⟩) (fun hS1 => ?_)
      clear hK K
      try simp only [List.getElem_toArray, List.getElem_cons_succ, List.getElem_cons_zero, Act.put, List.setIfInBounds_toArray, List.set_cons_zero, List.set_cons_succ]
      refine wpAnyH_ready (rs := [7]) (by kernel_rfl) (by simp) ?_
      refine AllReadyH.cons rfl (fun K hK => ?_) AllReadyH.nil
      go_simp
      refine (hr.out w6 hI6.out.ref).mono ?_
      rintro e w8 ⟨rfl, hR_, hK_⟩
      have hI8 := Lib.hid (hI6.out.rstep hq.out hR_ hK_)
      have hb8w := Lib.hid (hI6.out.rblock hK_ hb6.out (by decide))
      clear hR_ hK_
      refine hK.out _ _ (⟨by rw [block_cell hb8w.out]; rfl, by rw [block_cell hb8w.out]; rfl⟩) (fun hS2 => ?_)
      clear hK K
      try simp only [List.getElem_toArray, List.getElem_cons_succ, List.getElem_cons_zero, Act.put, List.setIfInBounds_toArray, List.set_cons_zero, List.set_cons_succ]
      refine wpAnyH_take (i := 8) (v := ?_) rfl (by kernel_rfl) (by kernel_rfl) (by kernel_rfl) (fun _ _ _ h => h) (Or.inl ⟨by rfl, ?_⟩) (by assumption) ?_
      rotate_left
      · intro w' hSw
        obtain ⟨q0, q1⟩ := hSw
        go_simp
        try with_reducible rfl
      try simp only [List.getElem_toArray, List.getElem_cons_succ, List.getElem_cons_zero, Act.put, List.setIfInBounds_toArray, List.set_cons_zero, List.set_cons_succ]
      refine wpAnyH_take (i := 9) (v := ?_) rfl (by kernel_rfl) (by kernel_rfl) (by kernel_rfl) (fun _ _ _ h => h) (Or.inl ⟨by rfl, ?_⟩) (by assumption) ?_
      rotate_left
      · intro w' hSw
        obtain ⟨q0, q1⟩ := hSw
        go_simp
        try with_reducible rfl
      try simp only [List.getElem_toArray, List.getElem_cons_succ, List.getElem_cons_zero, Act.put, List.setIfInBounds_toArray, List.set_cons_zero, List.set_cons_succ]
      refine wpAnyH_done (by kernel_rfl) ?_ _
      refine NoPanic.normal ?_
      go_wp2_with fail
      go_ret
      exact ⟨rfl, _, _, hI8.out, hgd.out⟩
  · as_aux_lemma =>
      go_wp2_with fail
      generalize w4.alloc (.cells #[.int .i64 m'.kind, .int .i64 m'.from_, .int .i64 m'.to_, .int .i64 m'.g, .int .i64 m'.node, .int .i64 m'.try_, .int .i64 m'.low, .int .i64 m'.code, .int .i64 m'.ticket, .slice x.A m'.told.length x.c, .slice B' m'.ops.length d'] 31) = W5 at *
      obtain ⟨code, c2, hn_, hr_⟩ := heal_pair (cz := cz) most ks p q i'
      have hn := Lib.hid hn_
      have hr := Lib.hid hr_
      clear hn_ hr_
      have hI5d := Lib.hid (hI5.out.later (Below.refl _ W5).drew)
      have hb7d : Hid (W5.drew.heap[w.heap.size]? = some (.cells #[.int .i64 10, .bool near, .int .i64 x.m.kind, .int .i64 x.m.from_, .int .i64 x.m.to_, .int .i64 x.m.g, .int .i64 x.m.node, .int .i64 x.m.try_, .int .i64 x.m.low, .int .i64 x.m.code, .int .i64 x.m.ticket, .slice x.A x.m.told.length x.c, .slice x.B x.m.ops.length x.d, .int .i64 i', .int .i64 k'] 48 (0, 0))) := Lib.hid hb7.out
      refine wp_region_noPanic ?_
      refine wp_region_held_drew (S := fun V => V.cell? ⟨w.heap.size, 13, none⟩ = some (.int .i64 i') ∧ V.cell? ⟨w.heap.size, 14, none⟩ = some (.int .i64 k')) (by kernel_rfl) (⟨by rw [block_cell hb7d.out]; rfl, by rw [block_cell hb7d.out]; rfl⟩) (fun hS0 => ?_)
      refine wpAnyH_take (i := 0) (v := ?_) rfl (by kernel_rfl) (by kernel_rfl) (by kernel_rfl) (fun _ _ _ h => h) (Or.inl ⟨by rfl, ?_⟩) (by assumption) ?_
      rotate_left
      · intro w' hSw
        obtain ⟨q0, q1⟩ := hSw
        go_simp
        try with_reducible rfl
      try simp only [List.getElem_toArray, List.getElem_cons_succ, List.getElem_cons_zero, Act.put, List.setIfInBounds_toArray, List.set_cons_zero, List.set_cons_succ]
      refine wpAnyH_take (i := 1) (v := ?_) rfl (by kernel_rfl) (by kernel_rfl) (by kernel_rfl) (fun _ _ _ h => h) (Or.inl ⟨by rfl, ?_⟩) (by assumption) ?_
      rotate_left
      · intro w' hSw
        obtain ⟨q0, q1⟩ := hSw
        go_simp
        try with_reducible rfl
      try simp only [List.getElem_toArray, List.getElem_cons_succ, List.getElem_cons_zero, Act.put, List.setIfInBounds_toArray, List.set_cons_zero, List.set_cons_succ]
      refine wpAnyH_take (i := 2) (v := ?_) rfl (by kernel_rfl) (by kernel_rfl) (by kernel_rfl) (fun _ _ _ h => h) (Or.inl ⟨by rfl, ?_⟩) (by assumption) ?_
      rotate_left
      · intro w' hSw
        obtain ⟨q0, q1⟩ := hSw
        go_simp
        try with_reducible rfl
      try simp only [List.getElem_toArray, List.getElem_cons_succ, List.getElem_cons_zero, Act.put, List.setIfInBounds_toArray, List.set_cons_zero, List.set_cons_succ]
      refine wpAnyH_take (i := 4) (v := ?_) rfl (by kernel_rfl) (by kernel_rfl) (by kernel_rfl) (fun _ _ _ h => h) (Or.inl ⟨by rfl, ?_⟩) (by assumption) ?_
      rotate_left
      · intro w' hSw
        obtain ⟨q0, q1⟩ := hSw
        go_simp
        try with_reducible rfl
      try simp only [List.getElem_toArray, List.getElem_cons_succ, List.getElem_cons_zero, Act.put, List.setIfInBounds_toArray, List.set_cons_zero, List.set_cons_succ]
      refine wpAnyH_take (i := 5) (v := ?_) rfl (by kernel_rfl) (by kernel_rfl) (by kernel_rfl) (fun _ _ _ h => h) (Or.inl ⟨by rfl, ?_⟩) (by assumption) ?_
      rotate_left
      · intro w' hSw
        obtain ⟨q0, q1⟩ := hSw
        go_simp
        try with_reducible rfl
      try simp only [List.getElem_toArray, List.getElem_cons_succ, List.getElem_cons_zero, Act.put, List.setIfInBounds_toArray, List.set_cons_zero, List.set_cons_succ]
      refine wpAnyH_take (i := 6) (v := ?_) rfl (by kernel_rfl) (by kernel_rfl) (by kernel_rfl) (fun _ _ _ h => h) (Or.inl ⟨by rfl, ?_⟩) (by assumption) ?_
      rotate_left
      · intro w' hSw
        obtain ⟨q0, q1⟩ := hSw
        go_simp
        try with_reducible rfl
      try simp only [List.getElem_toArray, List.getElem_cons_succ, List.getElem_cons_zero, Act.put, List.setIfInBounds_toArray, List.set_cons_zero, List.set_cons_succ]
      refine wpAnyH_ready (rs := [3]) (by kernel_rfl) (by simp) ?_
      refine AllReadyH.cons rfl (fun K hK => ?_) AllReadyH.nil
      go_simp
      refine (hn.out W5.drew (hH.out.1.below hI5d.out.below) hI5d.out.net).mono ?_
      rintro e w6 ⟨rfl, hN_, hK_⟩
      have hI6 := Lib.hid (hI5d.out.nstep hp.out hN_ hK_)
      have hb6 := Lib.hid (hI5d.out.nblock hK_ hb7d.out (by decide))
      clear hN_ hK_
      refine hK.out _ _ (⟨by rw [block_cell hb6.out]; rfl, by rw [block_cell hb6.out]; rfl⟩) (fun hS1 => ?_)
      clear hK K
      try simp only [List.getElem_toArray, List.getElem_cons_succ, List.getElem_cons_zero, Act.put, List.setIfInBounds_toArray, List.set_cons_zero, List.set_cons_succ]
      refine wpAnyH_ready (rs := [7]) (by kernel_rfl) (by simp) ?_
      refine AllReadyH.cons rfl (fun K hK => ?_) AllReadyH.nil
      go_simp
      refine (hr.out w6 hI6.out.ref).mono ?_
      rintro e w8 ⟨rfl, hR_, hK_⟩
      have hI8 := Lib.hid (hI6.out.rstep hq.out hR_ hK_)
      have hb8w := Lib.hid (hI6.out.rblock hK_ hb6.out (by decide))
      clear hR_ hK_
      refine hK.out _ _ (⟨by rw [block_cell hb8w.out]; rfl, by rw [block_cell hb8w.out]; rfl⟩) (fun hS2 => ?_)
      clear hK K
      try simp only [List.getElem_toArray, List.getElem_cons_succ, List.getElem_cons_zero, Act.put, List.setIfInBounds_toArray, List.set_cons_zero, List.set_cons_succ]
      refine wpAnyH_take (i := 8) (v := ?_) rfl (by kernel_rfl) (by kernel_rfl) (by kernel_rfl) (fun _ _ _ h => h) (Or.inl ⟨by rfl, ?_⟩) (by assumption) ?_
      rotate_left
      · intro w' hSw
        obtain ⟨q0, q1⟩ := hSw
        go_simp
        try with_reducible rfl
      try simp only [List.getElem_toArray, List.getElem_cons_succ, List.getElem_cons_zero, Act.put, List.setIfInBounds_toArray, List.set_cons_zero, List.set_cons_succ]
      refine wpAnyH_take (i := 9) (v := ?_) rfl (by kernel_rfl) (by kernel_rfl) (by kernel_rfl) (fun _ _ _ h => h) (Or.inl ⟨by rfl, ?_⟩) (by assumption) ?_
      rotate_left
      · intro w' hSw
        obtain ⟨q0, q1⟩ := hSw
        go_simp
        try with_reducible rfl
      try simp only [List.getElem_toArray, List.getElem_cons_succ, List.getElem_cons_zero, Act.put, List.setIfInBounds_toArray, List.set_cons_zero, List.set_cons_succ]
      refine wpAnyH_done (by kernel_rfl) ?_ _
      refine NoPanic.normal ?_
      go_wp2_with fail
      go_ret
      exact ⟨rfl, _, _, hI8.out, hgd.out⟩
  · as_aux_lemma =>
      go_wp2_with fail
      generalize w4.alloc (.cells #[.int .i64 m'.kind, .int .i64 m'.from_, .int .i64 m'.to_, .int .i64 m'.g, .int .i64 m'.node, .int .i64 m'.try_, .int .i64 m'.low, .int .i64 m'.code, .int .i64 m'.ticket, .slice x.A m'.told.length x.c, .slice B' m'.ops.length d'] 31) = W5 at *
      refine (tick_net p most ks W5 hgd.out hI5.out.net).mono ?_
      rintro e w6 ⟨rfl, hN_, hK_⟩
      have hI6 := Lib.hid (hI5.out.nstep hp.out hN_ hK_)
      clear hN_ hK_
      go_wp2_with fail
      refine (tick_ref q most ks w6 hgd.out hI6.out.ref).mono ?_
      rintro e w7 ⟨rfl, hR_, hK_⟩
      have hI7 := Lib.hid (hI6.out.rstep hq.out hR_ hK_)
      clear hR_ hK_
      go_wp2_with fail
      go_ret
      exact ⟨rfl, _, _, hI7.out, hgd.out.tick⟩
  · as_aux_lemma =>
      go_wp2_with fail
      generalize w4.alloc (.cells #[.int .i64 m'.kind, .int .i64 m'.from_, .int .i64 m'.to_, .int .i64 m'.g, .int .i64 m'.node, .int .i64 m'.try_, .int .i64 m'.low, .int .i64 m'.code, .int .i64 m'.ticket, .slice x.A m'.told.length x.c, .slice B' m'.ops.length d'] 31) = W5 at *
      go_ret
      exact ⟨rfl, _, _, hI5.out, hgd.out⟩
end Go.Proofs.YteeiacfddjhhkaaGreatDoor
