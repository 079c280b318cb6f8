/- net.Deliver of a packet: one that waits; a message's bytes; bytes that are no frame. -/
import Derived.Test.YteeiacfddjhhkaaGreatDoorDrop
import Derived.Test.YteeiacfddjhhkaaGreatDoorApp
import Derived.Test.YteeiacfddjhhkaaGreatDoorDec
namespace Go.Proofs.YteeiacfddjhhkaaGreatDoor
open Go.RowKit
set_option maxRecDepth 100000

/-- Blocks that are no net's. -/
theorem NetAt.keptS {S : Nat → Prop} {w w' : World} {p : Nat} {most : Int} {ks : List PK} (h : NetAt w p most ks) (hk : Kept S w w')
    (hS : ∀ (q : Nat) (o : Obj), S q → w.heap[q]? = some o → ∃ cur T fr, o = Obj.cells cur T fr ∧ T ≠ 77 ∧ T ≠ 71 ∧ T ≠ 5) : NetAt w' p most ks := by
  obtain ⟨A, c, mb, mk, vs, h1, h2, h3, h4, h5, h6⟩ := h
  have hc : ∀ (q : Nat) (cur : Array Value) (T : TypeId) (fr : Nat × Nat), w.heap[q]? = some (.cells cur T fr) → (T = 77 ∨ T = 71 ∨ T = 5) → w'.heap[q]? = w.heap[q]? := fun q cur T fr hq hT => hk.block q (lt_of_block hq) (fun hs => by
    obtain ⟨cur', T', fr', e, n1, n2, n3⟩ := hS q _ hs hq
    simp only [Obj.cells.injEq] at e
    obtain ⟨_, rfl, _⟩ := e
    rcases hT with hT | hT | hT
    · exact n1 hT
    · exact n2 hT
    · exact n3 hT)
  have hm : w'.heap[mb]? = w.heap[mb]? := hk.block mb (lt_of_block h2) (fun hs => by
    obtain ⟨cur', T', fr', e, _⟩ := hS mb _ hs h2
    simp at e)
  refine ⟨A, c, mb, mk, vs, (hc p _ _ _ h1 (.inr (.inl rfl))).trans h1, hm.trans h2, h3, own_move h4 fun q hq => ?_, h5, fun i v k hv hk' => ⟨own_move (h6 i v k hv hk').1 fun q hq => ?_, (h6 i v k hv hk').2⟩⟩
  · obtain ⟨cur, e⟩ := own_type h4 hq
    exact hc q _ _ _ e (.inl rfl)
  · obtain ⟨cur, e⟩ := own_type (h6 i v k hv hk').1 hq
    exact hc q _ _ _ e (.inr (.inr rfl))
set_option maxHeartbeats 1000000 in
theorem Deliver_busy (p : Nat) (most : Int) (ks : List PK) (i : Nat) (k : PK) (w : World) (hG : GOk w) (h : NetAt w p most ks) (hk : ks[i]? = some k) (hw : 0 < k.waits) :
    Calls Tryz.prog 11 #[.pointer (some ⟨p, 0, none⟩), .int .i64 i] w fun e w' => e = .returned (.tuple #[zeroV, .int .i64 20]) ∧ Below w.heap.size w w' := by
  have hGG := Lib.hid hG
  have hN := Lib.hid h
  have hi : i < ks.length := (List.getElem?_eq_some_iff.1 hk).1
  have h0 := Lib.hid (heap_alloc_new w (.cells #[.int .i64 0, .int .i64 0, .int .i64 0, .int .i64 0, .int .i64 0, .int .i64 0, .int .i64 0, .int .i64 0, .int .i64 0, .slice none 0 0, .slice none 0 0] 37))
  have hB0 := Lib.hid (below_alloc (Below.refl _ w) (.cells #[.int .i64 0, .int .i64 0, .int .i64 0, .int .i64 0, .int .i64 0, .int .i64 0, .int .i64 0, .int .i64 0, .int .i64 0, .slice none 0 0, .slice none 0 0] 37))
  obtain ⟨g, c, mb, mk, vs, v, h1, h2, h3, h4, h5, h6, hv, hov⟩ := h.row hk
  have x1 := cell_below hB0.out (show w.cell? ⟨p, 1, none⟩ = some (.slice (some ⟨g, 0, none⟩) ks.length c) by rw [block_cell h1]; rfl)
  have y1 := cell_below hB0.out (show w.cell? ⟨g, i * 3 + 1, none⟩ = some (.int .i64 k.site) by rw [h4.cellAt _ (by omega)]; exact (pksC_get vs ks i _ k hv hk).2.1)
  have y2 := cell_below hB0.out (show w.cell? ⟨g, i * 3 + 2, none⟩ = some (.int .i64 k.waits) by rw [h4.cellAt _ (by omega)]; exact (pksC_get vs ks i _ k hv hk).2.2)
  have hK := Lib.hid hk
  clear h h1 h2 h3 h4 h5 h6 hv hov hG hk v
  have d1 : decide (0 < k.waits) = true := by simpa using hw
  generalize k.waits = kw at *
  go_enter Tryz.func11, Tryz.ntmps11
  go_wp2_with fail
  generalize w.alloc (.cells #[.int .i64 0, .int .i64 0, .int .i64 0, .int .i64 0, .int .i64 0, .int .i64 0, .int .i64 0, .int .i64 0, .int .i64 0, .slice none 0 0, .slice none 0 0] 37) = W0 at *
  refine (at_ok p most ks i _ (hN.out.later hB0.out) hi).mono ?_
  rintro e W0 ⟨rfl, rfl⟩
  go_wp2_with fail
  refine (new_err 20 (by decide) _).mono ?_
  rintro e w1 ⟨T, b, rfl, hE_, hB_⟩
  have hE := Lib.hid hE_
  have hB1 := Lib.hid hB_
  clear hE_ hB_
  go_wp2_with fail
  refine (at_any i _ 20 _ hE.out).mono ?_
  rintro e w2 ⟨T2, b2, rfl, hE_, hB_⟩
  have hE2 := Lib.hid hE_
  have hB2 := Lib.hid (bnext hB1.out hB_)
  clear hE_ hB_
  go_wp2_with fail
  refine (code_err _ 20 _ hE2.out ((hGG.out.below hB0.out).below hB2.out)).mono ?_
  rintro e w3 ⟨rfl, hB_⟩
  have hB := Lib.hid (bnext hB0.out (bnext hB2.out hB_))
  have hb := block_below (bnext hB2.out hB_) h0.out
  have x0 : w3.cell? ⟨w.heap.size, 0, none⟩ = some (.int .i64 0) := by rw [block_cell hb]; rfl
  have f0 : w3.frozen? ⟨w.heap.size, 0, none⟩ = false := block_free hb 0
  have x1 : w3.cell? ⟨w.heap.size, 1, none⟩ = some (.int .i64 0) := by rw [block_cell hb]; rfl
  have f1 : w3.frozen? ⟨w.heap.size, 1, none⟩ = false := block_free hb 1
  have x2 : w3.cell? ⟨w.heap.size, 2, none⟩ = some (.int .i64 0) := by rw [block_cell hb]; rfl
  have f2 : w3.frozen? ⟨w.heap.size, 2, none⟩ = false := block_free hb 2
  have x3 : w3.cell? ⟨w.heap.size, 3, none⟩ = some (.int .i64 0) := by rw [block_cell hb]; rfl
  have f3 : w3.frozen? ⟨w.heap.size, 3, none⟩ = false := block_free hb 3
  have x4 : w3.cell? ⟨w.heap.size, 4, none⟩ = some (.int .i64 0) := by rw [block_cell hb]; rfl
  have f4 : w3.frozen? ⟨w.heap.size, 4, none⟩ = false := block_free hb 4
  have x5 : w3.cell? ⟨w.heap.size, 5, none⟩ = some (.int .i64 0) := by rw [block_cell hb]; rfl
  have f5 : w3.frozen? ⟨w.heap.size, 5, none⟩ = false := block_free hb 5
  have x6 : w3.cell? ⟨w.heap.size, 6, none⟩ = some (.int .i64 0) := by rw [block_cell hb]; rfl
  have f6 : w3.frozen? ⟨w.heap.size, 6, none⟩ = false := block_free hb 6
  have x7 : w3.cell? ⟨w.heap.size, 7, none⟩ = some (.int .i64 0) := by rw [block_cell hb]; rfl
  have f7 : w3.frozen? ⟨w.heap.size, 7, none⟩ = false := block_free hb 7
  have x8 : w3.cell? ⟨w.heap.size, 8, none⟩ = some (.int .i64 0) := by rw [block_cell hb]; rfl
  have f8 : w3.frozen? ⟨w.heap.size, 8, none⟩ = false := block_free hb 8
  have x9 : w3.cell? ⟨w.heap.size, 9, none⟩ = some (.slice none 0 0) := by rw [block_cell hb]; rfl
  have f9 : w3.frozen? ⟨w.heap.size, 9, none⟩ = false := block_free hb 9
  have x10 : w3.cell? ⟨w.heap.size, 10, none⟩ = some (.slice none 0 0) := by rw [block_cell hb]; rfl
  have f10 : w3.frozen? ⟨w.heap.size, 10, none⟩ = false := block_free hb 10
  have hKp : Kept (· = w.heap.size) w3 (((((((((((w3.setCell ⟨w.heap.size, 0, none⟩ (.int .i64 0)).setCell ⟨w.heap.size, 1, none⟩ (.int .i64 0)).setCell ⟨w.heap.size, 2, none⟩ (.int .i64 0)).setCell ⟨w.heap.size, 3, none⟩ (.int .i64 0)).setCell ⟨w.heap.size, 4, none⟩ (.int .i64 0)).setCell ⟨w.heap.size, 5, none⟩ (.int .i64 0)).setCell ⟨w.heap.size, 6, none⟩ (.int .i64 0)).setCell ⟨w.heap.size, 7, none⟩ (.int .i64 0)).setCell ⟨w.heap.size, 8, none⟩ (.int .i64 0)).setCell ⟨w.heap.size, 9, none⟩ (.slice none 0 0)).setCell ⟨w.heap.size, 10, none⟩ (.slice none 0 0)) := (Kept.setCell (S := (· = w.heap.size)) (p := ⟨w.heap.size, 10, none⟩) (Kept.setCell (S := (· = w.heap.size)) (p := ⟨w.heap.size, 9, none⟩) (Kept.setCell (S := (· = w.heap.size)) (p := ⟨w.heap.size, 8, none⟩) (Kept.setCell (S := (· = w.heap.size)) (p := ⟨w.heap.size, 7, none⟩) (Kept.setCell (S := (· = w.heap.size)) (p := ⟨w.heap.size, 6, none⟩) (Kept.setCell (S := (· = w.heap.size)) (p := ⟨w.heap.size, 5, none⟩) (Kept.setCell (S := (· = w.heap.size)) (p := ⟨w.heap.size, 4, none⟩) (Kept.setCell (S := (· = w.heap.size)) (p := ⟨w.heap.size, 3, none⟩) (Kept.setCell (S := (· = w.heap.size)) (p := ⟨w.heap.size, 2, none⟩) (Kept.setCell (S := (· = w.heap.size)) (p := ⟨w.heap.size, 1, none⟩) (Kept.setCell (S := (· = w.heap.size)) (p := ⟨w.heap.size, 0, none⟩) (Kept.refl (· = w.heap.size) w3) (.inl rfl) (.int .i64 0)) (.inl rfl) (.int .i64 0)) (.inl rfl) (.int .i64 0)) (.inl rfl) (.int .i64 0)) (.inl rfl) (.int .i64 0)) (.inl rfl) (.int .i64 0)) (.inl rfl) (.int .i64 0)) (.inl rfl) (.int .i64 0)) (.inl rfl) (.int .i64 0)) (.inl rfl) (.slice none 0 0)) (.inl rfl) (.slice none 0 0))
  have hEnd := Lib.hid (kept_below hB.out hKp (by rintro _ rfl; exact Nat.le_refl _))
  have hb2 := Lib.hid hb
  clear hB_ hKp hb
  go_wp2_with fail
  have hb := hb2.out
  clear x0 f0 x1 f1 x2 f2 x3 f3 x4 f4 x5 f5 x6 f6 x7 f7 x8 f8 x9 f9 x10 f10

  have hs0 : (w3.setCell ⟨w.heap.size, 0, none⟩ (.int .i64 0)).heap[w.heap.size]? = some (.cells #[.int .i64 0, .int .i64 0, .int .i64 0, .int .i64 0, .int .i64 0, .int .i64 0, .int .i64 0, .int .i64 0, .int .i64 0, .slice none 0 0, .slice none 0 0] 37 (0, 0)) := block_setCell hb 0 _
  generalize w3.setCell ⟨w.heap.size, 0, none⟩ (.int .i64 0) = w3_1 at *
  have hs1 : (w3_1.setCell ⟨w.heap.size, 1, none⟩ (.int .i64 0)).heap[w.heap.size]? = some (.cells #[.int .i64 0, .int .i64 0, .int .i64 0, .int .i64 0, .int .i64 0, .int .i64 0, .int .i64 0, .int .i64 0, .int .i64 0, .slice none 0 0, .slice none 0 0] 37 (0, 0)) := block_setCell hs0 1 _
  generalize w3_1.setCell ⟨w.heap.size, 1, none⟩ (.int .i64 0) = w3_2 at *
  have hs2 : (w3_2.setCell ⟨w.heap.size, 2, none⟩ (.int .i64 0)).heap[w.heap.size]? = some (.cells #[.int .i64 0, .int .i64 0, .int .i64 0, .int .i64 0, .int .i64 0, .int .i64 0, .int .i64 0, .int .i64 0, .int .i64 0, .slice none 0 0, .slice none 0 0] 37 (0, 0)) := block_setCell hs1 2 _
  generalize w3_2.setCell ⟨w.heap.size, 2, none⟩ (.int .i64 0) = w3_3 at *
  have hs3 : (w3_3.setCell ⟨w.heap.size, 3, none⟩ (.int .i64 0)).heap[w.heap.size]? = some (.cells #[.int .i64 0, .int .i64 0, .int .i64 0, .int .i64 0, .int .i64 0, .int .i64 0, .int .i64 0, .int .i64 0, .int .i64 0, .slice none 0 0, .slice none 0 0] 37 (0, 0)) := block_setCell hs2 3 _
  generalize w3_3.setCell ⟨w.heap.size, 3, none⟩ (.int .i64 0) = w3_4 at *
  have hs4 : (w3_4.setCell ⟨w.heap.size, 4, none⟩ (.int .i64 0)).heap[w.heap.size]? = some (.cells #[.int .i64 0, .int .i64 0, .int .i64 0, .int .i64 0, .int .i64 0, .int .i64 0, .int .i64 0, .int .i64 0, .int .i64 0, .slice none 0 0, .slice none 0 0] 37 (0, 0)) := block_setCell hs3 4 _
  generalize w3_4.setCell ⟨w.heap.size, 4, none⟩ (.int .i64 0) = w3_5 at *
  have hs5 : (w3_5.setCell ⟨w.heap.size, 5, none⟩ (.int .i64 0)).heap[w.heap.size]? = some (.cells #[.int .i64 0, .int .i64 0, .int .i64 0, .int .i64 0, .int .i64 0, .int .i64 0, .int .i64 0, .int .i64 0, .int .i64 0, .slice none 0 0, .slice none 0 0] 37 (0, 0)) := block_setCell hs4 5 _
  generalize w3_5.setCell ⟨w.heap.size, 5, none⟩ (.int .i64 0) = w3_6 at *
  have hs6 : (w3_6.setCell ⟨w.heap.size, 6, none⟩ (.int .i64 0)).heap[w.heap.size]? = some (.cells #[.int .i64 0, .int .i64 0, .int .i64 0, .int .i64 0, .int .i64 0, .int .i64 0, .int .i64 0, .int .i64 0, .int .i64 0, .slice none 0 0, .slice none 0 0] 37 (0, 0)) := block_setCell hs5 6 _
  generalize w3_6.setCell ⟨w.heap.size, 6, none⟩ (.int .i64 0) = w3_7 at *
  have hs7 : (w3_7.setCell ⟨w.heap.size, 7, none⟩ (.int .i64 0)).heap[w.heap.size]? = some (.cells #[.int .i64 0, .int .i64 0, .int .i64 0, .int .i64 0, .int .i64 0, .int .i64 0, .int .i64 0, .int .i64 0, .int .i64 0, .slice none 0 0, .slice none 0 0] 37 (0, 0)) := block_setCell hs6 7 _
  generalize w3_7.setCell ⟨w.heap.size, 7, none⟩ (.int .i64 0) = w3_8 at *
  have hs8 : (w3_8.setCell ⟨w.heap.size, 8, none⟩ (.int .i64 0)).heap[w.heap.size]? = some (.cells #[.int .i64 0, .int .i64 0, .int .i64 0, .int .i64 0, .int .i64 0, .int .i64 0, .int .i64 0, .int .i64 0, .int .i64 0, .slice none 0 0, .slice none 0 0] 37 (0, 0)) := block_setCell hs7 8 _
  generalize w3_8.setCell ⟨w.heap.size, 8, none⟩ (.int .i64 0) = w3_9 at *
  have hs9 : (w3_9.setCell ⟨w.heap.size, 9, none⟩ (.slice none 0 0)).heap[w.heap.size]? = some (.cells #[.int .i64 0, .int .i64 0, .int .i64 0, .int .i64 0, .int .i64 0, .int .i64 0, .int .i64 0, .int .i64 0, .int .i64 0, .slice none 0 0, .slice none 0 0] 37 (0, 0)) := block_setCell hs8 9 _
  generalize w3_9.setCell ⟨w.heap.size, 9, none⟩ (.slice none 0 0) = w3_10 at *
  have hs10 : (w3_10.setCell ⟨w.heap.size, 10, none⟩ (.slice none 0 0)).heap[w.heap.size]? = some (.cells #[.int .i64 0, .int .i64 0, .int .i64 0, .int .i64 0, .int .i64 0, .int .i64 0, .int .i64 0, .int .i64 0, .int .i64 0, .slice none 0 0, .slice none 0 0] 37 (0, 0)) := block_setCell hs9 10 _
  generalize w3_10.setCell ⟨w.heap.size, 10, none⟩ (.slice none 0 0) = w3F at *
  have hWF := hs10
  clear hs0 hs1 hs2 hs3 hs4 hs5 hs6 hs7 hs8 hs9 hs10 hb
  have zx0 : w3F.cell? ⟨w.heap.size, 0, none⟩ = some (.int .i64 0) := by rw [block_cell hWF]; rfl
  have zf0 : w3F.frozen? ⟨w.heap.size, 0, none⟩ = false := block_free hWF 0
  have zx1 : w3F.cell? ⟨w.heap.size, 1, none⟩ = some (.int .i64 0) := by rw [block_cell hWF]; rfl
  have zf1 : w3F.frozen? ⟨w.heap.size, 1, none⟩ = false := block_free hWF 1
  have zx2 : w3F.cell? ⟨w.heap.size, 2, none⟩ = some (.int .i64 0) := by rw [block_cell hWF]; rfl
  have zf2 : w3F.frozen? ⟨w.heap.size, 2, none⟩ = false := block_free hWF 2
  have zx3 : w3F.cell? ⟨w.heap.size, 3, none⟩ = some (.int .i64 0) := by rw [block_cell hWF]; rfl
  have zf3 : w3F.frozen? ⟨w.heap.size, 3, none⟩ = false := block_free hWF 3
  have zx4 : w3F.cell? ⟨w.heap.size, 4, none⟩ = some (.int .i64 0) := by rw [block_cell hWF]; rfl
  have zf4 : w3F.frozen? ⟨w.heap.size, 4, none⟩ = false := block_free hWF 4
  have zx5 : w3F.cell? ⟨w.heap.size, 5, none⟩ = some (.int .i64 0) := by rw [block_cell hWF]; rfl
  have zf5 : w3F.frozen? ⟨w.heap.size, 5, none⟩ = false := block_free hWF 5
  have zx6 : w3F.cell? ⟨w.heap.size, 6, none⟩ = some (.int .i64 0) := by rw [block_cell hWF]; rfl
  have zf6 : w3F.frozen? ⟨w.heap.size, 6, none⟩ = false := block_free hWF 6
  have zx7 : w3F.cell? ⟨w.heap.size, 7, none⟩ = some (.int .i64 0) := by rw [block_cell hWF]; rfl
  have zf7 : w3F.frozen? ⟨w.heap.size, 7, none⟩ = false := block_free hWF 7
  have zx8 : w3F.cell? ⟨w.heap.size, 8, none⟩ = some (.int .i64 0) := by rw [block_cell hWF]; rfl
  have zf8 : w3F.frozen? ⟨w.heap.size, 8, none⟩ = false := block_free hWF 8
  have zx9 : w3F.cell? ⟨w.heap.size, 9, none⟩ = some (.slice none 0 0) := by rw [block_cell hWF]; rfl
  have zf9 : w3F.frozen? ⟨w.heap.size, 9, none⟩ = false := block_free hWF 9
  have zx10 : w3F.cell? ⟨w.heap.size, 10, none⟩ = some (.slice none 0 0) := by rw [block_cell hWF]; rfl
  have zf10 : w3F.frozen? ⟨w.heap.size, 10, none⟩ = false := block_free hWF 10
  clear hWF
  go_wp2_with fail
  refine bodyPost_ret (v := .tuple #[zeroV, .int .i64 20]) ?_ rfl ⟨rfl, hEnd.out⟩
  simp [results, Tryz.results11, go_sem, zeroV, *]
set_option maxHeartbeats 2000000 in
theorem Deliver_bad (p : Nat) (most : Int) (ks : List PK) (i : Nat) (k : PK) (w : World) (hG : GOk w) (h : NetAt w p most ks) (hk : ks[i]? = some k) (hw : k.waits = 0) (hl : ks.length ≤ 100000) (hkl : k.b.length ≤ 100000) (hno : ∀ q, q.length ≤ 16384 → k.b ≠ wrapB q) :
    Calls Tryz.prog 11 #[.pointer (some ⟨p, 0, none⟩), .int .i64 i] w fun e w' => e = .returned (.tuple #[zeroV, .int .i64 6]) ∧ NetAt w' p most (ks.eraseIdx i) ∧ Kept (NS w p) w w' := by
  have hGG := Lib.hid hG
  have hN := Lib.hid h
  have hi : i < ks.length := (List.getElem?_eq_some_iff.1 hk).1
  have h0 := Lib.hid (heap_alloc_new w (.cells #[.int .i64 0, .int .i64 0, .int .i64 0, .int .i64 0, .int .i64 0, .int .i64 0, .int .i64 0, .int .i64 0, .int .i64 0, .slice none 0 0, .slice none 0 0] 37))
  have hB0 := Lib.hid (below_alloc (Below.refl _ w) (.cells #[.int .i64 0, .int .i64 0, .int .i64 0, .int .i64 0, .int .i64 0, .int .i64 0, .int .i64 0, .int .i64 0, .int .i64 0, .slice none 0 0, .slice none 0 0] 37))
  obtain ⟨g, c, mb, mk, vs, v, h1, h2, h3, h4, h5, h6, hv, hov⟩ := h.row hk
  have x1 := cell_below hB0.out (show w.cell? ⟨p, 1, none⟩ = some (.slice (some ⟨g, 0, none⟩) ks.length c) by rw [block_cell h1]; rfl)
  have y1 := cell_below hB0.out (show w.cell? ⟨g, i * 3 + 1, none⟩ = some (.int .i64 k.site) by rw [h4.cellAt _ (by omega)]; exact (pksC_get vs ks i _ k hv hk).2.1)
  have y2 := cell_below hB0.out (show w.cell? ⟨g, i * 3 + 2, none⟩ = some (.int .i64 k.waits) by rw [h4.cellAt _ (by omega)]; exact (pksC_get vs ks i _ k hv hk).2.2)
  have hK := Lib.hid hk
  clear h h1 h2 h3 h4 h5 h6 hv hov hG hk v
  have d1 : decide (0 < k.waits) = false := by simp [hw]
  have hwH := Lib.hid hw
  clear hw
  go_enter Tryz.func11, Tryz.ntmps11
  go_wp2_with fail
  have hnS : ¬ NS (w.alloc (.cells #[.int .i64 0, .int .i64 0, .int .i64 0, .int .i64 0, .int .i64 0, .int .i64 0, .int .i64 0, .int .i64 0, .int .i64 0, .slice none 0 0, .slice none 0 0] 37)) p w.heap.size := by
    rintro ⟨_, cur, T, fr, hb, hT⟩
    rw [h0.out] at hb
    simp only [Option.some.injEq, Obj.cells.injEq] at hb
    obtain ⟨_, rfl, _⟩ := hb
    simp at hT
  generalize w.alloc (.cells #[.int .i64 0, .int .i64 0, .int .i64 0, .int .i64 0, .int .i64 0, .int .i64 0, .int .i64 0, .int .i64 0, .int .i64 0, .slice none 0 0, .slice none 0 0] 37) = W0 at *
  refine (at_ok p most ks i _ (hN.out.later hB0.out) hi).mono ?_
  rintro e W0 ⟨rfl, rfl⟩
  go_wp2_with fail
  refine (parted_no p most ks k.site _ (hN.out.later hB0.out)).mono ?_
  rintro e W0 ⟨rfl, rfl⟩
  go_wp2_with fail
  refine (gone_any p most ks i k _ (hN.out.later hB0.out) hK.out hl).mono ?_
  rintro e w1 ⟨v, rfl, hov_, hN1_, hK1_⟩
  have hN1 := Lib.hid hN1_
  have hK1 := Lib.hid hK1_
  obtain ⟨A, d, rfl⟩ := own_slice hov_
  have hov := Lib.hid hov_
  have hb1 := Lib.hid ((hK1_.block w.heap.size (lt_of_block h0.out) hnS).trans h0.out)
  have hG1 := Lib.hid ((hGG.out.below hB0.out).kept hK1_ (fun h => by have := h.1; obtain ⟨_, _, mb', _, _, _, _, h3', _⟩ := hN.out; omega))
  clear hN1_ hK1_ hov_
  have hfd : ∀ W : World, (Instr.field 77 (.agg #[.slice A k.b.length d, .int .i64 k.site, .int .i64 k.waits]) 0).run Tryz.prog W = .ok (.slice A k.b.length d) W := fun _ => by kernel_rfl
  go_wp2_with fail
  refine (dec_bad _ k.b _ (RB.of_own hov.out) hkl hno).mono ?_
  rintro e w3 ⟨rfl, hB_⟩
  have hB3 := Lib.hid hB_
  have hb := block_below hB_ hb1.out
  have hSz := Lib.hid (Nat.le_trans hB0.out.size hK1.out.size)
  clear hB_
  simp only [zeroV]
  have x0 : w3.cell? ⟨w.heap.size, 0, none⟩ = some (.int .i64 0) := by rw [block_cell hb]; rfl
  have f0 : w3.frozen? ⟨w.heap.size, 0, none⟩ = false := block_free hb 0
  have x1 : w3.cell? ⟨w.heap.size, 1, none⟩ = some (.int .i64 0) := by rw [block_cell hb]; rfl
  have f1 : w3.frozen? ⟨w.heap.size, 1, none⟩ = false := block_free hb 1
  have x2 : w3.cell? ⟨w.heap.size, 2, none⟩ = some (.int .i64 0) := by rw [block_cell hb]; rfl
  have f2 : w3.frozen? ⟨w.heap.size, 2, none⟩ = false := block_free hb 2
  have x3 : w3.cell? ⟨w.heap.size, 3, none⟩ = some (.int .i64 0) := by rw [block_cell hb]; rfl
  have f3 : w3.frozen? ⟨w.heap.size, 3, none⟩ = false := block_free hb 3
  have x4 : w3.cell? ⟨w.heap.size, 4, none⟩ = some (.int .i64 0) := by rw [block_cell hb]; rfl
  have f4 : w3.frozen? ⟨w.heap.size, 4, none⟩ = false := block_free hb 4
  have x5 : w3.cell? ⟨w.heap.size, 5, none⟩ = some (.int .i64 0) := by rw [block_cell hb]; rfl
  have f5 : w3.frozen? ⟨w.heap.size, 5, none⟩ = false := block_free hb 5
  have x6 : w3.cell? ⟨w.heap.size, 6, none⟩ = some (.int .i64 0) := by rw [block_cell hb]; rfl
  have f6 : w3.frozen? ⟨w.heap.size, 6, none⟩ = false := block_free hb 6
  have x7 : w3.cell? ⟨w.heap.size, 7, none⟩ = some (.int .i64 0) := by rw [block_cell hb]; rfl
  have f7 : w3.frozen? ⟨w.heap.size, 7, none⟩ = false := block_free hb 7
  have x8 : w3.cell? ⟨w.heap.size, 8, none⟩ = some (.int .i64 0) := by rw [block_cell hb]; rfl
  have f8 : w3.frozen? ⟨w.heap.size, 8, none⟩ = false := block_free hb 8
  have x9 : w3.cell? ⟨w.heap.size, 9, none⟩ = some (.slice none 0 0) := by rw [block_cell hb]; rfl
  have f9 : w3.frozen? ⟨w.heap.size, 9, none⟩ = false := block_free hb 9
  have x10 : w3.cell? ⟨w.heap.size, 10, none⟩ = some (.slice none 0 0) := by rw [block_cell hb]; rfl
  have f10 : w3.frozen? ⟨w.heap.size, 10, none⟩ = false := block_free hb 10
  have hKp_ : Kept (· = w.heap.size) w3 (((((((((((w3.setCell ⟨w.heap.size, 0, none⟩ (.int .i64 0)).setCell ⟨w.heap.size, 1, none⟩ (.int .i64 0)).setCell ⟨w.heap.size, 2, none⟩ (.int .i64 0)).setCell ⟨w.heap.size, 3, none⟩ (.int .i64 0)).setCell ⟨w.heap.size, 4, none⟩ (.int .i64 0)).setCell ⟨w.heap.size, 5, none⟩ (.int .i64 0)).setCell ⟨w.heap.size, 6, none⟩ (.int .i64 0)).setCell ⟨w.heap.size, 7, none⟩ (.int .i64 0)).setCell ⟨w.heap.size, 8, none⟩ (.int .i64 0)).setCell ⟨w.heap.size, 9, none⟩ (.slice none 0 0)).setCell ⟨w.heap.size, 10, none⟩ (.slice none 0 0)) := (Kept.setCell (S := (· = w.heap.size)) (p := ⟨w.heap.size, 10, none⟩) (Kept.setCell (S := (· = w.heap.size)) (p := ⟨w.heap.size, 9, none⟩) (Kept.setCell (S := (· = w.heap.size)) (p := ⟨w.heap.size, 8, none⟩) (Kept.setCell (S := (· = w.heap.size)) (p := ⟨w.heap.size, 7, none⟩) (Kept.setCell (S := (· = w.heap.size)) (p := ⟨w.heap.size, 6, none⟩) (Kept.setCell (S := (· = w.heap.size)) (p := ⟨w.heap.size, 5, none⟩) (Kept.setCell (S := (· = w.heap.size)) (p := ⟨w.heap.size, 4, none⟩) (Kept.setCell (S := (· = w.heap.size)) (p := ⟨w.heap.size, 3, none⟩) (Kept.setCell (S := (· = w.heap.size)) (p := ⟨w.heap.size, 2, none⟩) (Kept.setCell (S := (· = w.heap.size)) (p := ⟨w.heap.size, 1, none⟩) (Kept.setCell (S := (· = w.heap.size)) (p := ⟨w.heap.size, 0, none⟩) (Kept.refl (· = w.heap.size) w3) (.inl rfl) (.int .i64 0)) (.inl rfl) (.int .i64 0)) (.inl rfl) (.int .i64 0)) (.inl rfl) (.int .i64 0)) (.inl rfl) (.int .i64 0)) (.inl rfl) (.int .i64 0)) (.inl rfl) (.int .i64 0)) (.inl rfl) (.int .i64 0)) (.inl rfl) (.int .i64 0)) (.inl rfl) (.slice none 0 0)) (.inl rfl) (.slice none 0 0))
  have hKp := Lib.hid hKp_
  have hb2 := Lib.hid hb
  clear hKp_ hb
  go_wp2_with fail
  have hb := hb2.out
  clear x0 f0 x1 f1 x2 f2 x3 f3 x4 f4 x5 f5 x6 f6 x7 f7 x8 f8 x9 f9 x10 f10

  have hs0 : (w3.setCell ⟨w.heap.size, 0, none⟩ (.int .i64 0)).heap[w.heap.size]? = some (.cells #[.int .i64 0, .int .i64 0, .int .i64 0, .int .i64 0, .int .i64 0, .int .i64 0, .int .i64 0, .int .i64 0, .int .i64 0, .slice none 0 0, .slice none 0 0] 37 (0, 0)) := block_setCell hb 0 _
  generalize w3.setCell ⟨w.heap.size, 0, none⟩ (.int .i64 0) = w3_1 at *
  have hs1 : (w3_1.setCell ⟨w.heap.size, 1, none⟩ (.int .i64 0)).heap[w.heap.size]? = some (.cells #[.int .i64 0, .int .i64 0, .int .i64 0, .int .i64 0, .int .i64 0, .int .i64 0, .int .i64 0, .int .i64 0, .int .i64 0, .slice none 0 0, .slice none 0 0] 37 (0, 0)) := block_setCell hs0 1 _
  generalize w3_1.setCell ⟨w.heap.size, 1, none⟩ (.int .i64 0) = w3_2 at *
  have hs2 : (w3_2.setCell ⟨w.heap.size, 2, none⟩ (.int .i64 0)).heap[w.heap.size]? = some (.cells #[.int .i64 0, .int .i64 0, .int .i64 0, .int .i64 0, .int .i64 0, .int .i64 0, .int .i64 0, .int .i64 0, .int .i64 0, .slice none 0 0, .slice none 0 0] 37 (0, 0)) := block_setCell hs1 2 _
  generalize w3_2.setCell ⟨w.heap.size, 2, none⟩ (.int .i64 0) = w3_3 at *
  have hs3 : (w3_3.setCell ⟨w.heap.size, 3, none⟩ (.int .i64 0)).heap[w.heap.size]? = some (.cells #[.int .i64 0, .int .i64 0, .int .i64 0, .int .i64 0, .int .i64 0, .int .i64 0, .int .i64 0, .int .i64 0, .int .i64 0, .slice none 0 0, .slice none 0 0] 37 (0, 0)) := block_setCell hs2 3 _
  generalize w3_3.setCell ⟨w.heap.size, 3, none⟩ (.int .i64 0) = w3_4 at *
  have hs4 : (w3_4.setCell ⟨w.heap.size, 4, none⟩ (.int .i64 0)).heap[w.heap.size]? = some (.cells #[.int .i64 0, .int .i64 0, .int .i64 0, .int .i64 0, .int .i64 0, .int .i64 0, .int .i64 0, .int .i64 0, .int .i64 0, .slice none 0 0, .slice none 0 0] 37 (0, 0)) := block_setCell hs3 4 _
  generalize w3_4.setCell ⟨w.heap.size, 4, none⟩ (.int .i64 0) = w3_5 at *
  have hs5 : (w3_5.setCell ⟨w.heap.size, 5, none⟩ (.int .i64 0)).heap[w.heap.size]? = some (.cells #[.int .i64 0, .int .i64 0, .int .i64 0, .int .i64 0, .int .i64 0, .int .i64 0, .int .i64 0, .int .i64 0, .int .i64 0, .slice none 0 0, .slice none 0 0] 37 (0, 0)) := block_setCell hs4 5 _
  generalize w3_5.setCell ⟨w.heap.size, 5, none⟩ (.int .i64 0) = w3_6 at *
  have hs6 : (w3_6.setCell ⟨w.heap.size, 6, none⟩ (.int .i64 0)).heap[w.heap.size]? = some (.cells #[.int .i64 0, .int .i64 0, .int .i64 0, .int .i64 0, .int .i64 0, .int .i64 0, .int .i64 0, .int .i64 0, .int .i64 0, .slice none 0 0, .slice none 0 0] 37 (0, 0)) := block_setCell hs5 6 _
  generalize w3_6.setCell ⟨w.heap.size, 6, none⟩ (.int .i64 0) = w3_7 at *
  have hs7 : (w3_7.setCell ⟨w.heap.size, 7, none⟩ (.int .i64 0)).heap[w.heap.size]? = some (.cells #[.int .i64 0, .int .i64 0, .int .i64 0, .int .i64 0, .int .i64 0, .int .i64 0, .int .i64 0, .int .i64 0, .int .i64 0, .slice none 0 0, .slice none 0 0] 37 (0, 0)) := block_setCell hs6 7 _
  generalize w3_7.setCell ⟨w.heap.size, 7, none⟩ (.int .i64 0) = w3_8 at *
  have hs8 : (w3_8.setCell ⟨w.heap.size, 8, none⟩ (.int .i64 0)).heap[w.heap.size]? = some (.cells #[.int .i64 0, .int .i64 0, .int .i64 0, .int .i64 0, .int .i64 0, .int .i64 0, .int .i64 0, .int .i64 0, .int .i64 0, .slice none 0 0, .slice none 0 0] 37 (0, 0)) := block_setCell hs7 8 _
  generalize w3_8.setCell ⟨w.heap.size, 8, none⟩ (.int .i64 0) = w3_9 at *
  have hs9 : (w3_9.setCell ⟨w.heap.size, 9, none⟩ (.slice none 0 0)).heap[w.heap.size]? = some (.cells #[.int .i64 0, .int .i64 0, .int .i64 0, .int .i64 0, .int .i64 0, .int .i64 0, .int .i64 0, .int .i64 0, .int .i64 0, .slice none 0 0, .slice none 0 0] 37 (0, 0)) := block_setCell hs8 9 _
  generalize w3_9.setCell ⟨w.heap.size, 9, none⟩ (.slice none 0 0) = w3_10 at *
  have hs10 : (w3_10.setCell ⟨w.heap.size, 10, none⟩ (.slice none 0 0)).heap[w.heap.size]? = some (.cells #[.int .i64 0, .int .i64 0, .int .i64 0, .int .i64 0, .int .i64 0, .int .i64 0, .int .i64 0, .int .i64 0, .int .i64 0, .slice none 0 0, .slice none 0 0] 37 (0, 0)) := block_setCell hs9 10 _
  generalize w3_10.setCell ⟨w.heap.size, 10, none⟩ (.slice none 0 0) = w3F at *
  have hWF := hs10
  clear hs0 hs1 hs2 hs3 hs4 hs5 hs6 hs7 hs8 hs9 hs10 hb
  have zx0 : w3F.cell? ⟨w.heap.size, 0, none⟩ = some (.int .i64 0) := by rw [block_cell hWF]; rfl
  have zf0 : w3F.frozen? ⟨w.heap.size, 0, none⟩ = false := block_free hWF 0
  have zx1 : w3F.cell? ⟨w.heap.size, 1, none⟩ = some (.int .i64 0) := by rw [block_cell hWF]; rfl
  have zf1 : w3F.frozen? ⟨w.heap.size, 1, none⟩ = false := block_free hWF 1
  have zx2 : w3F.cell? ⟨w.heap.size, 2, none⟩ = some (.int .i64 0) := by rw [block_cell hWF]; rfl
  have zf2 : w3F.frozen? ⟨w.heap.size, 2, none⟩ = false := block_free hWF 2
  have zx3 : w3F.cell? ⟨w.heap.size, 3, none⟩ = some (.int .i64 0) := by rw [block_cell hWF]; rfl
  have zf3 : w3F.frozen? ⟨w.heap.size, 3, none⟩ = false := block_free hWF 3
  have zx4 : w3F.cell? ⟨w.heap.size, 4, none⟩ = some (.int .i64 0) := by rw [block_cell hWF]; rfl
  have zf4 : w3F.frozen? ⟨w.heap.size, 4, none⟩ = false := block_free hWF 4
  have zx5 : w3F.cell? ⟨w.heap.size, 5, none⟩ = some (.int .i64 0) := by rw [block_cell hWF]; rfl
  have zf5 : w3F.frozen? ⟨w.heap.size, 5, none⟩ = false := block_free hWF 5
  have zx6 : w3F.cell? ⟨w.heap.size, 6, none⟩ = some (.int .i64 0) := by rw [block_cell hWF]; rfl
  have zf6 : w3F.frozen? ⟨w.heap.size, 6, none⟩ = false := block_free hWF 6
  have zx7 : w3F.cell? ⟨w.heap.size, 7, none⟩ = some (.int .i64 0) := by rw [block_cell hWF]; rfl
  have zf7 : w3F.frozen? ⟨w.heap.size, 7, none⟩ = false := block_free hWF 7
  have zx8 : w3F.cell? ⟨w.heap.size, 8, none⟩ = some (.int .i64 0) := by rw [block_cell hWF]; rfl
  have zf8 : w3F.frozen? ⟨w.heap.size, 8, none⟩ = false := block_free hWF 8
  have zx9 : w3F.cell? ⟨w.heap.size, 9, none⟩ = some (.slice none 0 0) := by rw [block_cell hWF]; rfl
  have zf9 : w3F.frozen? ⟨w.heap.size, 9, none⟩ = false := block_free hWF 9
  have zx10 : w3F.cell? ⟨w.heap.size, 10, none⟩ = some (.slice none 0 0) := by rw [block_cell hWF]; rfl
  have zf10 : w3F.frozen? ⟨w.heap.size, 10, none⟩ = false := block_free hWF 10
  clear hWF
  go_wp2_with fail
  refine bodyPost_ret (v := .tuple #[zeroV, .int .i64 6]) ?_ rfl ⟨rfl, (hN1.out.later hB3.out).keptS hKp.out ?_, ?_⟩
  · simp [results, Tryz.results11, go_sem, zeroV, *]
  · rintro q o rfl ho
    rw [hb2.out] at ho
    cases ho
    exact ⟨_, _, _, rfl, by decide, by decide, by decide⟩
  · exact (KeptN_trans (KeptN_trans (Kept.of_below _ hB0.out) hK1.out) (Kept.of_below _ hB3.out)).trans hKp.out (by rintro q hq rfl; omega)
set_option maxHeartbeats 2000000 in
theorem Deliver_good (p : Nat) (most : Int) (ks : List PK) (i : Nat) (k : PK) (m : PMsg) (w : World) (hG : GOk w) (h : NetAt w p most ks) (hk : ks[i]? = some k) (hw : k.waits = 0) (hl : ks.length ≤ 100000) (hkb : k.b = encM m) (hm : mayM m = true) (hok : i64ok m.ticket ∧ (∀ n ∈ m.told, i64ok n) ∧ (∀ o ∈ m.ops, o.ok)) :
    Calls Tryz.prog 11 #[.pointer (some ⟨p, 0, none⟩), .int .i64 i] w fun e w' => ∃ A c B d, e = .returned (.tuple #[.agg (msgA m A c B d), .int .i64 0]) ∧ MsgR w' m A c B d ∧ FreshM w A B ∧ NetAt w' p most (ks.eraseIdx i) ∧ Kept (NS w p) w w' := by
  have hKB := Lib.hid hkb
  have hMM := Lib.hid hm
  have hOK := Lib.hid hok
  clear hkb hm hok
  have hGG := Lib.hid hG
  have hN := Lib.hid h
  have hi : i < ks.length := (List.getElem?_eq_some_iff.1 hk).1
  have h0 := Lib.hid (heap_alloc_new w (.cells #[.int .i64 0, .int .i64 0, .int .i64 0, .int .i64 0, .int .i64 0, .int .i64 0, .int .i64 0, .int .i64 0, .int .i64 0, .slice none 0 0, .slice none 0 0] 37))
  have hB0 := Lib.hid (below_alloc (Below.refl _ w) (.cells #[.int .i64 0, .int .i64 0, .int .i64 0, .int .i64 0, .int .i64 0, .int .i64 0, .int .i64 0, .int .i64 0, .int .i64 0, .slice none 0 0, .slice none 0 0] 37))
  obtain ⟨g, c, mb, mk, vs, v, h1, h2, h3, h4, h5, h6, hv, hov⟩ := h.row hk
  have x1 := cell_below hB0.out (show w.cell? ⟨p, 1, none⟩ = some (.slice (some ⟨g, 0, none⟩) ks.length c) by rw [block_cell h1]; rfl)
  have y1 := cell_below hB0.out (show w.cell? ⟨g, i * 3 + 1, none⟩ = some (.int .i64 k.site) by rw [h4.cellAt _ (by omega)]; exact (pksC_get vs ks i _ k hv hk).2.1)
  have y2 := cell_below hB0.out (show w.cell? ⟨g, i * 3 + 2, none⟩ = some (.int .i64 k.waits) by rw [h4.cellAt _ (by omega)]; exact (pksC_get vs ks i _ k hv hk).2.2)
  have hK := Lib.hid hk
  clear h h1 h2 h3 h4 h5 h6 hv hov hG hk v
  have d1 : decide (0 < k.waits) = false := by simp [hw]
  have hwH := Lib.hid hw
  clear hw
  go_enter Tryz.func11, Tryz.ntmps11
  go_wp2_with fail
  have hnS : ¬ NS (w.alloc (.cells #[.int .i64 0, .int .i64 0, .int .i64 0, .int .i64 0, .int .i64 0, .int .i64 0, .int .i64 0, .int .i64 0, .int .i64 0, .slice none 0 0, .slice none 0 0] 37)) p w.heap.size := by
    rintro ⟨_, cur, T, fr, hb, hT⟩
    rw [h0.out] at hb
    simp only [Option.some.injEq, Obj.cells.injEq] at hb
    obtain ⟨_, rfl, _⟩ := hb
    simp at hT
  generalize w.alloc (.cells #[.int .i64 0, .int .i64 0, .int .i64 0, .int .i64 0, .int .i64 0, .int .i64 0, .int .i64 0, .int .i64 0, .int .i64 0, .slice none 0 0, .slice none 0 0] 37) = W0 at *
  refine (at_ok p most ks i _ (hN.out.later hB0.out) hi).mono ?_
  rintro e W0 ⟨rfl, rfl⟩
  go_wp2_with fail
  refine (parted_no p most ks k.site _ (hN.out.later hB0.out)).mono ?_
  rintro e W0 ⟨rfl, rfl⟩
  go_wp2_with fail
  refine (gone_any p most ks i k _ (hN.out.later hB0.out) hK.out hl).mono ?_
  rintro e w1 ⟨v, rfl, hov_, hN1_, hK1_⟩
  have hN1 := Lib.hid hN1_
  have hK1 := Lib.hid hK1_
  obtain ⟨A, d, rfl⟩ := own_slice hov_
  have hov := Lib.hid hov_
  have hb1 := Lib.hid ((hK1_.block w.heap.size (lt_of_block h0.out) hnS).trans h0.out)
  have hG1 := Lib.hid ((hGG.out.below hB0.out).kept hK1_ (fun h => by have := h.1; obtain ⟨_, _, mb', _, _, _, _, h3', _⟩ := hN.out; omega))
  clear hN1_ hK1_ hov_
  have hfd : ∀ W : World, (Instr.field 77 (.agg #[.slice A k.b.length d, .int .i64 k.site, .int .i64 k.waits]) 0).run Tryz.prog W = .ok (.slice A k.b.length d) W := fun _ => by kernel_rfl
  go_wp2_with fail
  refine (dec_good m _ _ hMM.out (by rw [← hKB.out]; exact RB.of_own hov.out) hG1.out hOK.out).mono ?_
  rintro e w3 ⟨A9, c9, B9, d9, rfl, hM_, hFr_, hB_⟩
  have hM := Lib.hid hM_
  have hFr := Lib.hid hFr_
  have hB3 := Lib.hid hB_
  have hb := block_below hB_ hb1.out
  have hSz := Lib.hid (Nat.le_trans hB0.out.size hK1.out.size)
  have hlt1 := lt_of_block hb1.out
  clear hB_ hFr_ hM_
  obtain ⟨kind, from_, to_, gg, node, try_, low, code, ticket, told, ops⟩ := m
  simp only [msgA]
  have x0 : w3.cell? ⟨w.heap.size, 0, none⟩ = some (.int .i64 0) := by rw [block_cell hb]; rfl
  have f0 : w3.frozen? ⟨w.heap.size, 0, none⟩ = false := block_free hb 0
  have x1 : w3.cell? ⟨w.heap.size, 1, none⟩ = some (.int .i64 0) := by rw [block_cell hb]; rfl
  have f1 : w3.frozen? ⟨w.heap.size, 1, none⟩ = false := block_free hb 1
  have x2 : w3.cell? ⟨w.heap.size, 2, none⟩ = some (.int .i64 0) := by rw [block_cell hb]; rfl
  have f2 : w3.frozen? ⟨w.heap.size, 2, none⟩ = false := block_free hb 2
  have x3 : w3.cell? ⟨w.heap.size, 3, none⟩ = some (.int .i64 0) := by rw [block_cell hb]; rfl
  have f3 : w3.frozen? ⟨w.heap.size, 3, none⟩ = false := block_free hb 3
  have x4 : w3.cell? ⟨w.heap.size, 4, none⟩ = some (.int .i64 0) := by rw [block_cell hb]; rfl
  have f4 : w3.frozen? ⟨w.heap.size, 4, none⟩ = false := block_free hb 4
  have x5 : w3.cell? ⟨w.heap.size, 5, none⟩ = some (.int .i64 0) := by rw [block_cell hb]; rfl
  have f5 : w3.frozen? ⟨w.heap.size, 5, none⟩ = false := block_free hb 5
  have x6 : w3.cell? ⟨w.heap.size, 6, none⟩ = some (.int .i64 0) := by rw [block_cell hb]; rfl
  have f6 : w3.frozen? ⟨w.heap.size, 6, none⟩ = false := block_free hb 6
  have x7 : w3.cell? ⟨w.heap.size, 7, none⟩ = some (.int .i64 0) := by rw [block_cell hb]; rfl
  have f7 : w3.frozen? ⟨w.heap.size, 7, none⟩ = false := block_free hb 7
  have x8 : w3.cell? ⟨w.heap.size, 8, none⟩ = some (.int .i64 0) := by rw [block_cell hb]; rfl
  have f8 : w3.frozen? ⟨w.heap.size, 8, none⟩ = false := block_free hb 8
  have x9 : w3.cell? ⟨w.heap.size, 9, none⟩ = some (.slice none 0 0) := by rw [block_cell hb]; rfl
  have f9 : w3.frozen? ⟨w.heap.size, 9, none⟩ = false := block_free hb 9
  have x10 : w3.cell? ⟨w.heap.size, 10, none⟩ = some (.slice none 0 0) := by rw [block_cell hb]; rfl
  have f10 : w3.frozen? ⟨w.heap.size, 10, none⟩ = false := block_free hb 10
  have hKp_ : Kept (· = w.heap.size) w3 (((((((((((w3.setCell ⟨w.heap.size, 0, none⟩ (.int .i64 kind)).setCell ⟨w.heap.size, 1, none⟩ (.int .i64 from_)).setCell ⟨w.heap.size, 2, none⟩ (.int .i64 to_)).setCell ⟨w.heap.size, 3, none⟩ (.int .i64 gg)).setCell ⟨w.heap.size, 4, none⟩ (.int .i64 node)).setCell ⟨w.heap.size, 5, none⟩ (.int .i64 try_)).setCell ⟨w.heap.size, 6, none⟩ (.int .i64 low)).setCell ⟨w.heap.size, 7, none⟩ (.int .i64 code)).setCell ⟨w.heap.size, 8, none⟩ (.int .i64 ticket)).setCell ⟨w.heap.size, 9, none⟩ (.slice A9 told.length c9)).setCell ⟨w.heap.size, 10, none⟩ (.slice B9 ops.length d9)) := (Kept.setCell (S := (· = w.heap.size)) (p := ⟨w.heap.size, 10, none⟩) (Kept.setCell (S := (· = w.heap.size)) (p := ⟨w.heap.size, 9, none⟩) (Kept.setCell (S := (· = w.heap.size)) (p := ⟨w.heap.size, 8, none⟩) (Kept.setCell (S := (· = w.heap.size)) (p := ⟨w.heap.size, 7, none⟩) (Kept.setCell (S := (· = w.heap.size)) (p := ⟨w.heap.size, 6, none⟩) (Kept.setCell (S := (· = w.heap.size)) (p := ⟨w.heap.size, 5, none⟩) (Kept.setCell (S := (· = w.heap.size)) (p := ⟨w.heap.size, 4, none⟩) (Kept.setCell (S := (· = w.heap.size)) (p := ⟨w.heap.size, 3, none⟩) (Kept.setCell (S := (· = w.heap.size)) (p := ⟨w.heap.size, 2, none⟩) (Kept.setCell (S := (· = w.heap.size)) (p := ⟨w.heap.size, 1, none⟩) (Kept.setCell (S := (· = w.heap.size)) (p := ⟨w.heap.size, 0, none⟩) (Kept.refl (· = w.heap.size) w3) (.inl rfl) (.int .i64 kind)) (.inl rfl) (.int .i64 from_)) (.inl rfl) (.int .i64 to_)) (.inl rfl) (.int .i64 gg)) (.inl rfl) (.int .i64 node)) (.inl rfl) (.int .i64 try_)) (.inl rfl) (.int .i64 low)) (.inl rfl) (.int .i64 code)) (.inl rfl) (.int .i64 ticket)) (.inl rfl) (.slice A9 told.length c9)) (.inl rfl) (.slice B9 ops.length d9))
  have hKp := Lib.hid hKp_
  have hb2 := Lib.hid hb
  clear hKp_ hb
  go_wp2_with fail
  have hb := hb2.out
  clear x0 f0 x1 f1 x2 f2 x3 f3 x4 f4 x5 f5 x6 f6 x7 f7 x8 f8 x9 f9 x10 f10

  have hs0 : (w3.setCell ⟨w.heap.size, 0, none⟩ (.int .i64 kind)).heap[w.heap.size]? = some (.cells #[.int .i64 kind, .int .i64 0, .int .i64 0, .int .i64 0, .int .i64 0, .int .i64 0, .int .i64 0, .int .i64 0, .int .i64 0, .slice none 0 0, .slice none 0 0] 37 (0, 0)) := block_setCell hb 0 _
  generalize w3.setCell ⟨w.heap.size, 0, none⟩ (.int .i64 kind) = w3_1 at *
  have hs1 : (w3_1.setCell ⟨w.heap.size, 1, none⟩ (.int .i64 from_)).heap[w.heap.size]? = some (.cells #[.int .i64 kind, .int .i64 from_, .int .i64 0, .int .i64 0, .int .i64 0, .int .i64 0, .int .i64 0, .int .i64 0, .int .i64 0, .slice none 0 0, .slice none 0 0] 37 (0, 0)) := block_setCell hs0 1 _
  generalize w3_1.setCell ⟨w.heap.size, 1, none⟩ (.int .i64 from_) = w3_2 at *
  have hs2 : (w3_2.setCell ⟨w.heap.size, 2, none⟩ (.int .i64 to_)).heap[w.heap.size]? = some (.cells #[.int .i64 kind, .int .i64 from_, .int .i64 to_, .int .i64 0, .int .i64 0, .int .i64 0, .int .i64 0, .int .i64 0, .int .i64 0, .slice none 0 0, .slice none 0 0] 37 (0, 0)) := block_setCell hs1 2 _
  generalize w3_2.setCell ⟨w.heap.size, 2, none⟩ (.int .i64 to_) = w3_3 at *
  have hs3 : (w3_3.setCell ⟨w.heap.size, 3, none⟩ (.int .i64 gg)).heap[w.heap.size]? = some (.cells #[.int .i64 kind, .int .i64 from_, .int .i64 to_, .int .i64 gg, .int .i64 0, .int .i64 0, .int .i64 0, .int .i64 0, .int .i64 0, .slice none 0 0, .slice none 0 0] 37 (0, 0)) := block_setCell hs2 3 _
  generalize w3_3.setCell ⟨w.heap.size, 3, none⟩ (.int .i64 gg) = w3_4 at *
  have hs4 : (w3_4.setCell ⟨w.heap.size, 4, none⟩ (.int .i64 node)).heap[w.heap.size]? = some (.cells #[.int .i64 kind, .int .i64 from_, .int .i64 to_, .int .i64 gg, .int .i64 node, .int .i64 0, .int .i64 0, .int .i64 0, .int .i64 0, .slice none 0 0, .slice none 0 0] 37 (0, 0)) := block_setCell hs3 4 _
  generalize w3_4.setCell ⟨w.heap.size, 4, none⟩ (.int .i64 node) = w3_5 at *
  have hs5 : (w3_5.setCell ⟨w.heap.size, 5, none⟩ (.int .i64 try_)).heap[w.heap.size]? = some (.cells #[.int .i64 kind, .int .i64 from_, .int .i64 to_, .int .i64 gg, .int .i64 node, .int .i64 try_, .int .i64 0, .int .i64 0, .int .i64 0, .slice none 0 0, .slice none 0 0] 37 (0, 0)) := block_setCell hs4 5 _
  generalize w3_5.setCell ⟨w.heap.size, 5, none⟩ (.int .i64 try_) = w3_6 at *
  have hs6 : (w3_6.setCell ⟨w.heap.size, 6, none⟩ (.int .i64 low)).heap[w.heap.size]? = some (.cells #[.int .i64 kind, .int .i64 from_, .int .i64 to_, .int .i64 gg, .int .i64 node, .int .i64 try_, .int .i64 low, .int .i64 0, .int .i64 0, .slice none 0 0, .slice none 0 0] 37 (0, 0)) := block_setCell hs5 6 _
  generalize w3_6.setCell ⟨w.heap.size, 6, none⟩ (.int .i64 low) = w3_7 at *
  have hs7 : (w3_7.setCell ⟨w.heap.size, 7, none⟩ (.int .i64 code)).heap[w.heap.size]? = some (.cells #[.int .i64 kind, .int .i64 from_, .int .i64 to_, .int .i64 gg, .int .i64 node, .int .i64 try_, .int .i64 low, .int .i64 code, .int .i64 0, .slice none 0 0, .slice none 0 0] 37 (0, 0)) := block_setCell hs6 7 _
  generalize w3_7.setCell ⟨w.heap.size, 7, none⟩ (.int .i64 code) = w3_8 at *
  have hs8 : (w3_8.setCell ⟨w.heap.size, 8, none⟩ (.int .i64 ticket)).heap[w.heap.size]? = some (.cells #[.int .i64 kind, .int .i64 from_, .int .i64 to_, .int .i64 gg, .int .i64 node, .int .i64 try_, .int .i64 low, .int .i64 code, .int .i64 ticket, .slice none 0 0, .slice none 0 0] 37 (0, 0)) := block_setCell hs7 8 _
  generalize w3_8.setCell ⟨w.heap.size, 8, none⟩ (.int .i64 ticket) = w3_9 at *
  have hs9 : (w3_9.setCell ⟨w.heap.size, 9, none⟩ (.slice A9 told.length c9)).heap[w.heap.size]? = some (.cells #[.int .i64 kind, .int .i64 from_, .int .i64 to_, .int .i64 gg, .int .i64 node, .int .i64 try_, .int .i64 low, .int .i64 code, .int .i64 ticket, .slice A9 told.length c9, .slice none 0 0] 37 (0, 0)) := block_setCell hs8 9 _
  generalize w3_9.setCell ⟨w.heap.size, 9, none⟩ (.slice A9 told.length c9) = w3_10 at *
  have hs10 : (w3_10.setCell ⟨w.heap.size, 10, none⟩ (.slice B9 ops.length d9)).heap[w.heap.size]? = some (.cells #[.int .i64 kind, .int .i64 from_, .int .i64 to_, .int .i64 gg, .int .i64 node, .int .i64 try_, .int .i64 low, .int .i64 code, .int .i64 ticket, .slice A9 told.length c9, .slice B9 ops.length d9] 37 (0, 0)) := block_setCell hs9 10 _
  generalize w3_10.setCell ⟨w.heap.size, 10, none⟩ (.slice B9 ops.length d9) = w3F at *
  have hWF := hs10
  clear hs0 hs1 hs2 hs3 hs4 hs5 hs6 hs7 hs8 hs9 hs10 hb
  have zx0 : w3F.cell? ⟨w.heap.size, 0, none⟩ = some (.int .i64 kind) := by rw [block_cell hWF]; rfl
  have zf0 : w3F.frozen? ⟨w.heap.size, 0, none⟩ = false := block_free hWF 0
  have zx1 : w3F.cell? ⟨w.heap.size, 1, none⟩ = some (.int .i64 from_) := by rw [block_cell hWF]; rfl
  have zf1 : w3F.frozen? ⟨w.heap.size, 1, none⟩ = false := block_free hWF 1
  have zx2 : w3F.cell? ⟨w.heap.size, 2, none⟩ = some (.int .i64 to_) := by rw [block_cell hWF]; rfl
  have zf2 : w3F.frozen? ⟨w.heap.size, 2, none⟩ = false := block_free hWF 2
  have zx3 : w3F.cell? ⟨w.heap.size, 3, none⟩ = some (.int .i64 gg) := by rw [block_cell hWF]; rfl
  have zf3 : w3F.frozen? ⟨w.heap.size, 3, none⟩ = false := block_free hWF 3
  have zx4 : w3F.cell? ⟨w.heap.size, 4, none⟩ = some (.int .i64 node) := by rw [block_cell hWF]; rfl
  have zf4 : w3F.frozen? ⟨w.heap.size, 4, none⟩ = false := block_free hWF 4
  have zx5 : w3F.cell? ⟨w.heap.size, 5, none⟩ = some (.int .i64 try_) := by rw [block_cell hWF]; rfl
  have zf5 : w3F.frozen? ⟨w.heap.size, 5, none⟩ = false := block_free hWF 5
  have zx6 : w3F.cell? ⟨w.heap.size, 6, none⟩ = some (.int .i64 low) := by rw [block_cell hWF]; rfl
  have zf6 : w3F.frozen? ⟨w.heap.size, 6, none⟩ = false := block_free hWF 6
  have zx7 : w3F.cell? ⟨w.heap.size, 7, none⟩ = some (.int .i64 code) := by rw [block_cell hWF]; rfl
  have zf7 : w3F.frozen? ⟨w.heap.size, 7, none⟩ = false := block_free hWF 7
  have zx8 : w3F.cell? ⟨w.heap.size, 8, none⟩ = some (.int .i64 ticket) := by rw [block_cell hWF]; rfl
  have zf8 : w3F.frozen? ⟨w.heap.size, 8, none⟩ = false := block_free hWF 8
  have zx9 : w3F.cell? ⟨w.heap.size, 9, none⟩ = some (.slice A9 told.length c9) := by rw [block_cell hWF]; rfl
  have zf9 : w3F.frozen? ⟨w.heap.size, 9, none⟩ = false := block_free hWF 9
  have zx10 : w3F.cell? ⟨w.heap.size, 10, none⟩ = some (.slice B9 ops.length d9) := by rw [block_cell hWF]; rfl
  have zf10 : w3F.frozen? ⟨w.heap.size, 10, none⟩ = false := block_free hWF 10
  clear hWF
  go_wp2_with fail
  refine bodyPost_ret (v := .tuple #[.agg #[.int .i64 kind, .int .i64 from_, .int .i64 to_, .int .i64 gg, .int .i64 node, .int .i64 try_, .int .i64 low, .int .i64 code, .int .i64 ticket, .slice A9 told.length c9, .slice B9 ops.length d9], .int .i64 0]) ?_ rfl ⟨A9, c9, B9, d9, rfl, ?_, ?_, (hN1.out.later hB3.out).keptS hKp.out ?_, ?_⟩
  · simp [results, Tryz.results11, go_sem, *]
  · have hM3 := hM.out
    exact ⟨hM3.told.kept hKp.out (fun ad hA e => by have := hFr.out.1 ad hA; have e' : ad.block = w.heap.size := e; omega), hM3.ops.kept hKp.out (fun ad hA e => by have := hFr.out.2 ad hA; have e' : ad.block = w.heap.size := e; omega), hM3.toldle, hM3.opsle, hM3.keys, hM3.toldok, hM3.opsok, hM3.nums⟩
  · exact ⟨fun ad hA => by have := hFr.out.1 ad hA; omega, fun ad hA => by have := hFr.out.2 ad hA; omega⟩
  · rintro q o rfl ho
    rw [hb2.out] at ho
    cases ho
    exact ⟨_, _, _, rfl, by decide, by decide, by decide⟩
  · exact (KeptN_trans (KeptN_trans (Kept.of_below _ hB0.out) hK1.out) (Kept.of_below _ hB3.out)).trans hKp.out (by rintro q hq rfl; omega)
end Go.Proofs.YteeiacfddjhhkaaGreatDoor
