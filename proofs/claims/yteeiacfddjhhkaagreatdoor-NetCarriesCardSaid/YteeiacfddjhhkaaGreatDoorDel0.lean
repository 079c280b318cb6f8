/- net.Deliver where there is no packet: a net that is not there, a number that is none. -/
import Derived.Test.YteeiacfddjhhkaaGreatDoorNil
namespace Go.Proofs.YteeiacfddjhhkaaGreatDoor
open Go.RowKit
set_option maxRecDepth 100000

set_option maxHeartbeats 1000000 in
theorem Deliver_nil (i : Int) (w : World) (hG : GOk w) : Calls Tryz.prog 11 #[.pointer none, .int .i64 i] w fun e w' => e = .returned (.tuple #[zeroV, .int .i64 1]) ∧ Below w.heap.size w w' := by
  have hGG := Lib.hid hG
  have h0 := Lib.hid (heap_alloc_new w (.cells #[.int .i64 0, .int .i64 0, .int .i64 0, .int .i64 0, .int .i64 0, .int .i64 0, .int .i64 0, .int .i64 0, .int .i64 0, .slice none 0 0, .slice none 0 0] 37))
  have hB0 := Lib.hid (below_alloc (Below.refl _ w) (.cells #[.int .i64 0, .int .i64 0, .int .i64 0, .int .i64 0, .int .i64 0, .int .i64 0, .int .i64 0, .int .i64 0, .int .i64 0, .slice none 0 0, .slice none 0 0] 37))
  clear hG
  go_enter Tryz.func11, Tryz.ntmps11
  go_wp2_with fail
  generalize w.alloc (.cells #[.int .i64 0, .int .i64 0, .int .i64 0, .int .i64 0, .int .i64 0, .int .i64 0, .int .i64 0, .int .i64 0, .int .i64 0, .slice none 0 0, .slice none 0 0] 37) = W0 at *
  refine (at_nil i _).mono ?_
  rintro e w1 ⟨T, b, rfl, hE_, hB_⟩
  have hE := Lib.hid hE_
  have hB1 := Lib.hid hB_
  clear hE_ hB_
  go_wp2_with fail
  refine (code_err _ 1 _ hE.out ((hGG.out.below hB0.out).below hB1.out)).mono ?_
  rintro e w2 ⟨rfl, hB_⟩
  have hB := Lib.hid (bnext hB0.out (bnext hB1.out hB_))
  have hb := block_below (bnext hB1.out hB_) h0.out
  have x0 : w2.cell? ⟨w.heap.size, 0, none⟩ = some (.int .i64 0) := by rw [block_cell hb]; rfl
  have f0 : w2.frozen? ⟨w.heap.size, 0, none⟩ = false := block_free hb 0
  have x1 : w2.cell? ⟨w.heap.size, 1, none⟩ = some (.int .i64 0) := by rw [block_cell hb]; rfl
  have f1 : w2.frozen? ⟨w.heap.size, 1, none⟩ = false := block_free hb 1
  have x2 : w2.cell? ⟨w.heap.size, 2, none⟩ = some (.int .i64 0) := by rw [block_cell hb]; rfl
  have f2 : w2.frozen? ⟨w.heap.size, 2, none⟩ = false := block_free hb 2
  have x3 : w2.cell? ⟨w.heap.size, 3, none⟩ = some (.int .i64 0) := by rw [block_cell hb]; rfl
  have f3 : w2.frozen? ⟨w.heap.size, 3, none⟩ = false := block_free hb 3
  have x4 : w2.cell? ⟨w.heap.size, 4, none⟩ = some (.int .i64 0) := by rw [block_cell hb]; rfl
  have f4 : w2.frozen? ⟨w.heap.size, 4, none⟩ = false := block_free hb 4
  have x5 : w2.cell? ⟨w.heap.size, 5, none⟩ = some (.int .i64 0) := by rw [block_cell hb]; rfl
  have f5 : w2.frozen? ⟨w.heap.size, 5, none⟩ = false := block_free hb 5
  have x6 : w2.cell? ⟨w.heap.size, 6, none⟩ = some (.int .i64 0) := by rw [block_cell hb]; rfl
  have f6 : w2.frozen? ⟨w.heap.size, 6, none⟩ = false := block_free hb 6
  have x7 : w2.cell? ⟨w.heap.size, 7, none⟩ = some (.int .i64 0) := by rw [block_cell hb]; rfl
  have f7 : w2.frozen? ⟨w.heap.size, 7, none⟩ = false := block_free hb 7
  have x8 : w2.cell? ⟨w.heap.size, 8, none⟩ = some (.int .i64 0) := by rw [block_cell hb]; rfl
  have f8 : w2.frozen? ⟨w.heap.size, 8, none⟩ = false := block_free hb 8
  have x9 : w2.cell? ⟨w.heap.size, 9, none⟩ = some (.slice none 0 0) := by rw [block_cell hb]; rfl
  have f9 : w2.frozen? ⟨w.heap.size, 9, none⟩ = false := block_free hb 9
  have x10 : w2.cell? ⟨w.heap.size, 10, none⟩ = some (.slice none 0 0) := by rw [block_cell hb]; rfl
  have f10 : w2.frozen? ⟨w.heap.size, 10, none⟩ = false := block_free hb 10
  have hK : Kept (· = w.heap.size) w2 (((((((((((w2.setCell ⟨w.heap.size, 0, none⟩ (.int .i64 0)).setCell ⟨w.heap.size, 1, none⟩ (.int .i64 0)).setCell ⟨w.heap.size, 2, none⟩ (.int .i64 0)).setCell ⟨w.heap.size, 3, none⟩ (.int .i64 0)).setCell ⟨w.heap.size, 4, none⟩ (.int .i64 0)).setCell ⟨w.heap.size, 5, none⟩ (.int .i64 0)).setCell ⟨w.heap.size, 6, none⟩ (.int .i64 0)).setCell ⟨w.heap.size, 7, none⟩ (.int .i64 0)).setCell ⟨w.heap.size, 8, none⟩ (.int .i64 0)).setCell ⟨w.heap.size, 9, none⟩ (.slice none 0 0)).setCell ⟨w.heap.size, 10, none⟩ (.slice none 0 0)) := (Kept.setCell (S := (· = w.heap.size)) (p := ⟨w.heap.size, 10, none⟩) (Kept.setCell (S := (· = w.heap.size)) (p := ⟨w.heap.size, 9, none⟩) (Kept.setCell (S := (· = w.heap.size)) (p := ⟨w.heap.size, 8, none⟩) (Kept.setCell (S := (· = w.heap.size)) (p := ⟨w.heap.size, 7, none⟩) (Kept.setCell (S := (· = w.heap.size)) (p := ⟨w.heap.size, 6, none⟩) (Kept.setCell (S := (· = w.heap.size)) (p := ⟨w.heap.size, 5, none⟩) (Kept.setCell (S := (· = w.heap.size)) (p := ⟨w.heap.size, 4, none⟩) (Kept.setCell (S := (· = w.heap.size)) (p := ⟨w.heap.size, 3, none⟩) (Kept.setCell (S := (· = w.heap.size)) (p := ⟨w.heap.size, 2, none⟩) (Kept.setCell (S := (· = w.heap.size)) (p := ⟨w.heap.size, 1, none⟩) (Kept.setCell (S := (· = w.heap.size)) (p := ⟨w.heap.size, 0, none⟩) (Kept.refl (· = w.heap.size) w2) (.inl rfl) (.int .i64 0)) (.inl rfl) (.int .i64 0)) (.inl rfl) (.int .i64 0)) (.inl rfl) (.int .i64 0)) (.inl rfl) (.int .i64 0)) (.inl rfl) (.int .i64 0)) (.inl rfl) (.int .i64 0)) (.inl rfl) (.int .i64 0)) (.inl rfl) (.int .i64 0)) (.inl rfl) (.slice none 0 0)) (.inl rfl) (.slice none 0 0))
  have hEnd := Lib.hid (kept_below hB.out hK (by rintro _ rfl; exact Nat.le_refl _))
  have hb2 := Lib.hid hb
  clear hB_ hK hb
  go_wp2_with fail
  have hb := hb2.out
  clear x0 f0 x1 f1 x2 f2 x3 f3 x4 f4 x5 f5 x6 f6 x7 f7 x8 f8 x9 f9 x10 f10

  have hs0 : (w2.setCell ⟨w.heap.size, 0, none⟩ (.int .i64 0)).heap[w.heap.size]? = some (.cells #[.int .i64 0, .int .i64 0, .int .i64 0, .int .i64 0, .int .i64 0, .int .i64 0, .int .i64 0, .int .i64 0, .int .i64 0, .slice none 0 0, .slice none 0 0] 37 (0, 0)) := block_setCell hb 0 _
  generalize w2.setCell ⟨w.heap.size, 0, none⟩ (.int .i64 0) = w2_1 at *
  have hs1 : (w2_1.setCell ⟨w.heap.size, 1, none⟩ (.int .i64 0)).heap[w.heap.size]? = some (.cells #[.int .i64 0, .int .i64 0, .int .i64 0, .int .i64 0, .int .i64 0, .int .i64 0, .int .i64 0, .int .i64 0, .int .i64 0, .slice none 0 0, .slice none 0 0] 37 (0, 0)) := block_setCell hs0 1 _
  generalize w2_1.setCell ⟨w.heap.size, 1, none⟩ (.int .i64 0) = w2_2 at *
  have hs2 : (w2_2.setCell ⟨w.heap.size, 2, none⟩ (.int .i64 0)).heap[w.heap.size]? = some (.cells #[.int .i64 0, .int .i64 0, .int .i64 0, .int .i64 0, .int .i64 0, .int .i64 0, .int .i64 0, .int .i64 0, .int .i64 0, .slice none 0 0, .slice none 0 0] 37 (0, 0)) := block_setCell hs1 2 _
  generalize w2_2.setCell ⟨w.heap.size, 2, none⟩ (.int .i64 0) = w2_3 at *
  have hs3 : (w2_3.setCell ⟨w.heap.size, 3, none⟩ (.int .i64 0)).heap[w.heap.size]? = some (.cells #[.int .i64 0, .int .i64 0, .int .i64 0, .int .i64 0, .int .i64 0, .int .i64 0, .int .i64 0, .int .i64 0, .int .i64 0, .slice none 0 0, .slice none 0 0] 37 (0, 0)) := block_setCell hs2 3 _
  generalize w2_3.setCell ⟨w.heap.size, 3, none⟩ (.int .i64 0) = w2_4 at *
  have hs4 : (w2_4.setCell ⟨w.heap.size, 4, none⟩ (.int .i64 0)).heap[w.heap.size]? = some (.cells #[.int .i64 0, .int .i64 0, .int .i64 0, .int .i64 0, .int .i64 0, .int .i64 0, .int .i64 0, .int .i64 0, .int .i64 0, .slice none 0 0, .slice none 0 0] 37 (0, 0)) := block_setCell hs3 4 _
  generalize w2_4.setCell ⟨w.heap.size, 4, none⟩ (.int .i64 0) = w2_5 at *
  have hs5 : (w2_5.setCell ⟨w.heap.size, 5, none⟩ (.int .i64 0)).heap[w.heap.size]? = some (.cells #[.int .i64 0, .int .i64 0, .int .i64 0, .int .i64 0, .int .i64 0, .int .i64 0, .int .i64 0, .int .i64 0, .int .i64 0, .slice none 0 0, .slice none 0 0] 37 (0, 0)) := block_setCell hs4 5 _
  generalize w2_5.setCell ⟨w.heap.size, 5, none⟩ (.int .i64 0) = w2_6 at *
  have hs6 : (w2_6.setCell ⟨w.heap.size, 6, none⟩ (.int .i64 0)).heap[w.heap.size]? = some (.cells #[.int .i64 0, .int .i64 0, .int .i64 0, .int .i64 0, .int .i64 0, .int .i64 0, .int .i64 0, .int .i64 0, .int .i64 0, .slice none 0 0, .slice none 0 0] 37 (0, 0)) := block_setCell hs5 6 _
  generalize w2_6.setCell ⟨w.heap.size, 6, none⟩ (.int .i64 0) = w2_7 at *
  have hs7 : (w2_7.setCell ⟨w.heap.size, 7, none⟩ (.int .i64 0)).heap[w.heap.size]? = some (.cells #[.int .i64 0, .int .i64 0, .int .i64 0, .int .i64 0, .int .i64 0, .int .i64 0, .int .i64 0, .int .i64 0, .int .i64 0, .slice none 0 0, .slice none 0 0] 37 (0, 0)) := block_setCell hs6 7 _
  generalize w2_7.setCell ⟨w.heap.size, 7, none⟩ (.int .i64 0) = w2_8 at *
  have hs8 : (w2_8.setCell ⟨w.heap.size, 8, none⟩ (.int .i64 0)).heap[w.heap.size]? = some (.cells #[.int .i64 0, .int .i64 0, .int .i64 0, .int .i64 0, .int .i64 0, .int .i64 0, .int .i64 0, .int .i64 0, .int .i64 0, .slice none 0 0, .slice none 0 0] 37 (0, 0)) := block_setCell hs7 8 _
  generalize w2_8.setCell ⟨w.heap.size, 8, none⟩ (.int .i64 0) = w2_9 at *
  have hs9 : (w2_9.setCell ⟨w.heap.size, 9, none⟩ (.slice none 0 0)).heap[w.heap.size]? = some (.cells #[.int .i64 0, .int .i64 0, .int .i64 0, .int .i64 0, .int .i64 0, .int .i64 0, .int .i64 0, .int .i64 0, .int .i64 0, .slice none 0 0, .slice none 0 0] 37 (0, 0)) := block_setCell hs8 9 _
  generalize w2_9.setCell ⟨w.heap.size, 9, none⟩ (.slice none 0 0) = w2_10 at *
  have hs10 : (w2_10.setCell ⟨w.heap.size, 10, none⟩ (.slice none 0 0)).heap[w.heap.size]? = some (.cells #[.int .i64 0, .int .i64 0, .int .i64 0, .int .i64 0, .int .i64 0, .int .i64 0, .int .i64 0, .int .i64 0, .int .i64 0, .slice none 0 0, .slice none 0 0] 37 (0, 0)) := block_setCell hs9 10 _
  generalize w2_10.setCell ⟨w.heap.size, 10, none⟩ (.slice none 0 0) = w2F at *
  have hWF := hs10
  clear hs0 hs1 hs2 hs3 hs4 hs5 hs6 hs7 hs8 hs9 hs10 hb
  have zx0 : w2F.cell? ⟨w.heap.size, 0, none⟩ = some (.int .i64 0) := by rw [block_cell hWF]; rfl
  have zf0 : w2F.frozen? ⟨w.heap.size, 0, none⟩ = false := block_free hWF 0
  have zx1 : w2F.cell? ⟨w.heap.size, 1, none⟩ = some (.int .i64 0) := by rw [block_cell hWF]; rfl
  have zf1 : w2F.frozen? ⟨w.heap.size, 1, none⟩ = false := block_free hWF 1
  have zx2 : w2F.cell? ⟨w.heap.size, 2, none⟩ = some (.int .i64 0) := by rw [block_cell hWF]; rfl
  have zf2 : w2F.frozen? ⟨w.heap.size, 2, none⟩ = false := block_free hWF 2
  have zx3 : w2F.cell? ⟨w.heap.size, 3, none⟩ = some (.int .i64 0) := by rw [block_cell hWF]; rfl
  have zf3 : w2F.frozen? ⟨w.heap.size, 3, none⟩ = false := block_free hWF 3
  have zx4 : w2F.cell? ⟨w.heap.size, 4, none⟩ = some (.int .i64 0) := by rw [block_cell hWF]; rfl
  have zf4 : w2F.frozen? ⟨w.heap.size, 4, none⟩ = false := block_free hWF 4
  have zx5 : w2F.cell? ⟨w.heap.size, 5, none⟩ = some (.int .i64 0) := by rw [block_cell hWF]; rfl
  have zf5 : w2F.frozen? ⟨w.heap.size, 5, none⟩ = false := block_free hWF 5
  have zx6 : w2F.cell? ⟨w.heap.size, 6, none⟩ = some (.int .i64 0) := by rw [block_cell hWF]; rfl
  have zf6 : w2F.frozen? ⟨w.heap.size, 6, none⟩ = false := block_free hWF 6
  have zx7 : w2F.cell? ⟨w.heap.size, 7, none⟩ = some (.int .i64 0) := by rw [block_cell hWF]; rfl
  have zf7 : w2F.frozen? ⟨w.heap.size, 7, none⟩ = false := block_free hWF 7
  have zx8 : w2F.cell? ⟨w.heap.size, 8, none⟩ = some (.int .i64 0) := by rw [block_cell hWF]; rfl
  have zf8 : w2F.frozen? ⟨w.heap.size, 8, none⟩ = false := block_free hWF 8
  have zx9 : w2F.cell? ⟨w.heap.size, 9, none⟩ = some (.slice none 0 0) := by rw [block_cell hWF]; rfl
  have zf9 : w2F.frozen? ⟨w.heap.size, 9, none⟩ = false := block_free hWF 9
  have zx10 : w2F.cell? ⟨w.heap.size, 10, none⟩ = some (.slice none 0 0) := by rw [block_cell hWF]; rfl
  have zf10 : w2F.frozen? ⟨w.heap.size, 10, none⟩ = false := block_free hWF 10
  clear hWF
  go_wp2_with fail
  refine bodyPost_ret (v := .tuple #[zeroV, .int .i64 1]) ?_ rfl ⟨rfl, hEnd.out⟩
  simp [results, Tryz.results11, go_sem, zeroV, *]
set_option maxHeartbeats 1000000 in
theorem Deliver_none (p : Nat) (most : Int) (ks : List PK) (i : Int) (w : World) (hG : GOk w) (h : NetAt w p most ks) (hi : i < 0 ∨ (ks.length : Int) ≤ i) : Calls Tryz.prog 11 #[.pointer (some ⟨p, 0, none⟩), .int .i64 i] w fun e w' => e = .returned (.tuple #[zeroV, .int .i64 3]) ∧ Below w.heap.size w w' := by
  have hGG := Lib.hid hG
  have hN := Lib.hid h
  clear h
  have h0 := Lib.hid (heap_alloc_new w (.cells #[.int .i64 0, .int .i64 0, .int .i64 0, .int .i64 0, .int .i64 0, .int .i64 0, .int .i64 0, .int .i64 0, .int .i64 0, .slice none 0 0, .slice none 0 0] 37))
  have hB0 := Lib.hid (below_alloc (Below.refl _ w) (.cells #[.int .i64 0, .int .i64 0, .int .i64 0, .int .i64 0, .int .i64 0, .int .i64 0, .int .i64 0, .int .i64 0, .int .i64 0, .slice none 0 0, .slice none 0 0] 37))
  clear hG
  go_enter Tryz.func11, Tryz.ntmps11
  go_wp2_with fail
  generalize w.alloc (.cells #[.int .i64 0, .int .i64 0, .int .i64 0, .int .i64 0, .int .i64 0, .int .i64 0, .int .i64 0, .int .i64 0, .int .i64 0, .slice none 0 0, .slice none 0 0] 37) = W0 at *
  refine (at_none p most ks i _ (hN.out.later hB0.out) hi).mono ?_
  rintro e w1 ⟨T, b, rfl, hE_, hB_⟩
  have hE := Lib.hid hE_
  have hB1 := Lib.hid hB_
  clear hE_ hB_
  go_wp2_with fail
  refine (code_err _ 3 _ hE.out ((hGG.out.below hB0.out).below hB1.out)).mono ?_
  rintro e w2 ⟨rfl, hB_⟩
  have hB := Lib.hid (bnext hB0.out (bnext hB1.out hB_))
  have hb := block_below (bnext hB1.out hB_) h0.out
  have x0 : w2.cell? ⟨w.heap.size, 0, none⟩ = some (.int .i64 0) := by rw [block_cell hb]; rfl
  have f0 : w2.frozen? ⟨w.heap.size, 0, none⟩ = false := block_free hb 0
  have x1 : w2.cell? ⟨w.heap.size, 1, none⟩ = some (.int .i64 0) := by rw [block_cell hb]; rfl
  have f1 : w2.frozen? ⟨w.heap.size, 1, none⟩ = false := block_free hb 1
  have x2 : w2.cell? ⟨w.heap.size, 2, none⟩ = some (.int .i64 0) := by rw [block_cell hb]; rfl
  have f2 : w2.frozen? ⟨w.heap.size, 2, none⟩ = false := block_free hb 2
  have x3 : w2.cell? ⟨w.heap.size, 3, none⟩ = some (.int .i64 0) := by rw [block_cell hb]; rfl
  have f3 : w2.frozen? ⟨w.heap.size, 3, none⟩ = false := block_free hb 3
  have x4 : w2.cell? ⟨w.heap.size, 4, none⟩ = some (.int .i64 0) := by rw [block_cell hb]; rfl
  have f4 : w2.frozen? ⟨w.heap.size, 4, none⟩ = false := block_free hb 4
  have x5 : w2.cell? ⟨w.heap.size, 5, none⟩ = some (.int .i64 0) := by rw [block_cell hb]; rfl
  have f5 : w2.frozen? ⟨w.heap.size, 5, none⟩ = false := block_free hb 5
  have x6 : w2.cell? ⟨w.heap.size, 6, none⟩ = some (.int .i64 0) := by rw [block_cell hb]; rfl
  have f6 : w2.frozen? ⟨w.heap.size, 6, none⟩ = false := block_free hb 6
  have x7 : w2.cell? ⟨w.heap.size, 7, none⟩ = some (.int .i64 0) := by rw [block_cell hb]; rfl
  have f7 : w2.frozen? ⟨w.heap.size, 7, none⟩ = false := block_free hb 7
  have x8 : w2.cell? ⟨w.heap.size, 8, none⟩ = some (.int .i64 0) := by rw [block_cell hb]; rfl
  have f8 : w2.frozen? ⟨w.heap.size, 8, none⟩ = false := block_free hb 8
  have x9 : w2.cell? ⟨w.heap.size, 9, none⟩ = some (.slice none 0 0) := by rw [block_cell hb]; rfl
  have f9 : w2.frozen? ⟨w.heap.size, 9, none⟩ = false := block_free hb 9
  have x10 : w2.cell? ⟨w.heap.size, 10, none⟩ = some (.slice none 0 0) := by rw [block_cell hb]; rfl
  have f10 : w2.frozen? ⟨w.heap.size, 10, none⟩ = false := block_free hb 10
  have hK : Kept (· = w.heap.size) w2 (((((((((((w2.setCell ⟨w.heap.size, 0, none⟩ (.int .i64 0)).setCell ⟨w.heap.size, 1, none⟩ (.int .i64 0)).setCell ⟨w.heap.size, 2, none⟩ (.int .i64 0)).setCell ⟨w.heap.size, 3, none⟩ (.int .i64 0)).setCell ⟨w.heap.size, 4, none⟩ (.int .i64 0)).setCell ⟨w.heap.size, 5, none⟩ (.int .i64 0)).setCell ⟨w.heap.size, 6, none⟩ (.int .i64 0)).setCell ⟨w.heap.size, 7, none⟩ (.int .i64 0)).setCell ⟨w.heap.size, 8, none⟩ (.int .i64 0)).setCell ⟨w.heap.size, 9, none⟩ (.slice none 0 0)).setCell ⟨w.heap.size, 10, none⟩ (.slice none 0 0)) := (Kept.setCell (S := (· = w.heap.size)) (p := ⟨w.heap.size, 10, none⟩) (Kept.setCell (S := (· = w.heap.size)) (p := ⟨w.heap.size, 9, none⟩) (Kept.setCell (S := (· = w.heap.size)) (p := ⟨w.heap.size, 8, none⟩) (Kept.setCell (S := (· = w.heap.size)) (p := ⟨w.heap.size, 7, none⟩) (Kept.setCell (S := (· = w.heap.size)) (p := ⟨w.heap.size, 6, none⟩) (Kept.setCell (S := (· = w.heap.size)) (p := ⟨w.heap.size, 5, none⟩) (Kept.setCell (S := (· = w.heap.size)) (p := ⟨w.heap.size, 4, none⟩) (Kept.setCell (S := (· = w.heap.size)) (p := ⟨w.heap.size, 3, none⟩) (Kept.setCell (S := (· = w.heap.size)) (p := ⟨w.heap.size, 2, none⟩) (Kept.setCell (S := (· = w.heap.size)) (p := ⟨w.heap.size, 1, none⟩) (Kept.setCell (S := (· = w.heap.size)) (p := ⟨w.heap.size, 0, none⟩) (Kept.refl (· = w.heap.size) w2) (.inl rfl) (.int .i64 0)) (.inl rfl) (.int .i64 0)) (.inl rfl) (.int .i64 0)) (.inl rfl) (.int .i64 0)) (.inl rfl) (.int .i64 0)) (.inl rfl) (.int .i64 0)) (.inl rfl) (.int .i64 0)) (.inl rfl) (.int .i64 0)) (.inl rfl) (.int .i64 0)) (.inl rfl) (.slice none 0 0)) (.inl rfl) (.slice none 0 0))
  have hEnd := Lib.hid (kept_below hB.out hK (by rintro _ rfl; exact Nat.le_refl _))
  have hb2 := Lib.hid hb
  clear hB_ hK hb
  go_wp2_with fail
  have hb := hb2.out
  clear x0 f0 x1 f1 x2 f2 x3 f3 x4 f4 x5 f5 x6 f6 x7 f7 x8 f8 x9 f9 x10 f10

  have hs0 : (w2.setCell ⟨w.heap.size, 0, none⟩ (.int .i64 0)).heap[w.heap.size]? = some (.cells #[.int .i64 0, .int .i64 0, .int .i64 0, .int .i64 0, .int .i64 0, .int .i64 0, .int .i64 0, .int .i64 0, .int .i64 0, .slice none 0 0, .slice none 0 0] 37 (0, 0)) := block_setCell hb 0 _
  generalize w2.setCell ⟨w.heap.size, 0, none⟩ (.int .i64 0) = w2_1 at *
  have hs1 : (w2_1.setCell ⟨w.heap.size, 1, none⟩ (.int .i64 0)).heap[w.heap.size]? = some (.cells #[.int .i64 0, .int .i64 0, .int .i64 0, .int .i64 0, .int .i64 0, .int .i64 0, .int .i64 0, .int .i64 0, .int .i64 0, .slice none 0 0, .slice none 0 0] 37 (0, 0)) := block_setCell hs0 1 _
  generalize w2_1.setCell ⟨w.heap.size, 1, none⟩ (.int .i64 0) = w2_2 at *
  have hs2 : (w2_2.setCell ⟨w.heap.size, 2, none⟩ (.int .i64 0)).heap[w.heap.size]? = some (.cells #[.int .i64 0, .int .i64 0, .int .i64 0, .int .i64 0, .int .i64 0, .int .i64 0, .int .i64 0, .int .i64 0, .int .i64 0, .slice none 0 0, .slice none 0 0] 37 (0, 0)) := block_setCell hs1 2 _
  generalize w2_2.setCell ⟨w.heap.size, 2, none⟩ (.int .i64 0) = w2_3 at *
  have hs3 : (w2_3.setCell ⟨w.heap.size, 3, none⟩ (.int .i64 0)).heap[w.heap.size]? = some (.cells #[.int .i64 0, .int .i64 0, .int .i64 0, .int .i64 0, .int .i64 0, .int .i64 0, .int .i64 0, .int .i64 0, .int .i64 0, .slice none 0 0, .slice none 0 0] 37 (0, 0)) := block_setCell hs2 3 _
  generalize w2_3.setCell ⟨w.heap.size, 3, none⟩ (.int .i64 0) = w2_4 at *
  have hs4 : (w2_4.setCell ⟨w.heap.size, 4, none⟩ (.int .i64 0)).heap[w.heap.size]? = some (.cells #[.int .i64 0, .int .i64 0, .int .i64 0, .int .i64 0, .int .i64 0, .int .i64 0, .int .i64 0, .int .i64 0, .int .i64 0, .slice none 0 0, .slice none 0 0] 37 (0, 0)) := block_setCell hs3 4 _
  generalize w2_4.setCell ⟨w.heap.size, 4, none⟩ (.int .i64 0) = w2_5 at *
  have hs5 : (w2_5.setCell ⟨w.heap.size, 5, none⟩ (.int .i64 0)).heap[w.heap.size]? = some (.cells #[.int .i64 0, .int .i64 0, .int .i64 0, .int .i64 0, .int .i64 0, .int .i64 0, .int .i64 0, .int .i64 0, .int .i64 0, .slice none 0 0, .slice none 0 0] 37 (0, 0)) := block_setCell hs4 5 _
  generalize w2_5.setCell ⟨w.heap.size, 5, none⟩ (.int .i64 0) = w2_6 at *
  have hs6 : (w2_6.setCell ⟨w.heap.size, 6, none⟩ (.int .i64 0)).heap[w.heap.size]? = some (.cells #[.int .i64 0, .int .i64 0, .int .i64 0, .int .i64 0, .int .i64 0, .int .i64 0, .int .i64 0, .int .i64 0, .int .i64 0, .slice none 0 0, .slice none 0 0] 37 (0, 0)) := block_setCell hs5 6 _
  generalize w2_6.setCell ⟨w.heap.size, 6, none⟩ (.int .i64 0) = w2_7 at *
  have hs7 : (w2_7.setCell ⟨w.heap.size, 7, none⟩ (.int .i64 0)).heap[w.heap.size]? = some (.cells #[.int .i64 0, .int .i64 0, .int .i64 0, .int .i64 0, .int .i64 0, .int .i64 0, .int .i64 0, .int .i64 0, .int .i64 0, .slice none 0 0, .slice none 0 0] 37 (0, 0)) := block_setCell hs6 7 _
  generalize w2_7.setCell ⟨w.heap.size, 7, none⟩ (.int .i64 0) = w2_8 at *
  have hs8 : (w2_8.setCell ⟨w.heap.size, 8, none⟩ (.int .i64 0)).heap[w.heap.size]? = some (.cells #[.int .i64 0, .int .i64 0, .int .i64 0, .int .i64 0, .int .i64 0, .int .i64 0, .int .i64 0, .int .i64 0, .int .i64 0, .slice none 0 0, .slice none 0 0] 37 (0, 0)) := block_setCell hs7 8 _
  generalize w2_8.setCell ⟨w.heap.size, 8, none⟩ (.int .i64 0) = w2_9 at *
  have hs9 : (w2_9.setCell ⟨w.heap.size, 9, none⟩ (.slice none 0 0)).heap[w.heap.size]? = some (.cells #[.int .i64 0, .int .i64 0, .int .i64 0, .int .i64 0, .int .i64 0, .int .i64 0, .int .i64 0, .int .i64 0, .int .i64 0, .slice none 0 0, .slice none 0 0] 37 (0, 0)) := block_setCell hs8 9 _
  generalize w2_9.setCell ⟨w.heap.size, 9, none⟩ (.slice none 0 0) = w2_10 at *
  have hs10 : (w2_10.setCell ⟨w.heap.size, 10, none⟩ (.slice none 0 0)).heap[w.heap.size]? = some (.cells #[.int .i64 0, .int .i64 0, .int .i64 0, .int .i64 0, .int .i64 0, .int .i64 0, .int .i64 0, .int .i64 0, .int .i64 0, .slice none 0 0, .slice none 0 0] 37 (0, 0)) := block_setCell hs9 10 _
  generalize w2_10.setCell ⟨w.heap.size, 10, none⟩ (.slice none 0 0) = w2F at *
  have hWF := hs10
  clear hs0 hs1 hs2 hs3 hs4 hs5 hs6 hs7 hs8 hs9 hs10 hb
  have zx0 : w2F.cell? ⟨w.heap.size, 0, none⟩ = some (.int .i64 0) := by rw [block_cell hWF]; rfl
  have zf0 : w2F.frozen? ⟨w.heap.size, 0, none⟩ = false := block_free hWF 0
  have zx1 : w2F.cell? ⟨w.heap.size, 1, none⟩ = some (.int .i64 0) := by rw [block_cell hWF]; rfl
  have zf1 : w2F.frozen? ⟨w.heap.size, 1, none⟩ = false := block_free hWF 1
  have zx2 : w2F.cell? ⟨w.heap.size, 2, none⟩ = some (.int .i64 0) := by rw [block_cell hWF]; rfl
  have zf2 : w2F.frozen? ⟨w.heap.size, 2, none⟩ = false := block_free hWF 2
  have zx3 : w2F.cell? ⟨w.heap.size, 3, none⟩ = some (.int .i64 0) := by rw [block_cell hWF]; rfl
  have zf3 : w2F.frozen? ⟨w.heap.size, 3, none⟩ = false := block_free hWF 3
  have zx4 : w2F.cell? ⟨w.heap.size, 4, none⟩ = some (.int .i64 0) := by rw [block_cell hWF]; rfl
  have zf4 : w2F.frozen? ⟨w.heap.size, 4, none⟩ = false := block_free hWF 4
  have zx5 : w2F.cell? ⟨w.heap.size, 5, none⟩ = some (.int .i64 0) := by rw [block_cell hWF]; rfl
  have zf5 : w2F.frozen? ⟨w.heap.size, 5, none⟩ = false := block_free hWF 5
  have zx6 : w2F.cell? ⟨w.heap.size, 6, none⟩ = some (.int .i64 0) := by rw [block_cell hWF]; rfl
  have zf6 : w2F.frozen? ⟨w.heap.size, 6, none⟩ = false := block_free hWF 6
  have zx7 : w2F.cell? ⟨w.heap.size, 7, none⟩ = some (.int .i64 0) := by rw [block_cell hWF]; rfl
  have zf7 : w2F.frozen? ⟨w.heap.size, 7, none⟩ = false := block_free hWF 7
  have zx8 : w2F.cell? ⟨w.heap.size, 8, none⟩ = some (.int .i64 0) := by rw [block_cell hWF]; rfl
  have zf8 : w2F.frozen? ⟨w.heap.size, 8, none⟩ = false := block_free hWF 8
  have zx9 : w2F.cell? ⟨w.heap.size, 9, none⟩ = some (.slice none 0 0) := by rw [block_cell hWF]; rfl
  have zf9 : w2F.frozen? ⟨w.heap.size, 9, none⟩ = false := block_free hWF 9
  have zx10 : w2F.cell? ⟨w.heap.size, 10, none⟩ = some (.slice none 0 0) := by rw [block_cell hWF]; rfl
  have zf10 : w2F.frozen? ⟨w.heap.size, 10, none⟩ = false := block_free hWF 10
  clear hWF
  go_wp2_with fail
  refine bodyPost_ret (v := .tuple #[zeroV, .int .i64 3]) ?_ rfl ⟨rfl, hEnd.out⟩
  simp [results, Tryz.results11, go_sem, zeroV, *]
end Go.Proofs.YteeiacfddjhhkaaGreatDoor
