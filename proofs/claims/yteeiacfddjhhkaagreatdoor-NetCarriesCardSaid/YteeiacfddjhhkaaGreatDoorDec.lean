/- mess.Decode: a message out of its bytes; of bytes that are no frame there is none. -/
import Derived.Test.YteeiacfddjhhkaaGreatDoorOne
import Derived.Test.YteeiacfddjhhkaaGreatDoorRd4
namespace Go.Proofs.YteeiacfddjhhkaaGreatDoor
open Go.RowKit
set_option maxRecDepth 100000

def zeroV : Value := .agg #[.int .i64 0, .int .i64 0, .int .i64 0, .int .i64 0, .int .i64 0, .int .i64 0, .int .i64 0, .int .i64 0, .int .i64 0, .slice none 0 0, .slice none 0 0]
set_option maxHeartbeats 1000000 in
theorem dec_bad (v : Value) (bs : List UInt8) (w : World) (h : RB w v bs) (hl : bs.length ≤ 100000) (hno : ∀ p, p.length ≤ 16384 → bs ≠ wrapB p) :
    Calls Tryz.prog 17 #[v] w fun e w' => e = .returned (.tuple #[zeroV, .int .i64 6]) ∧ Below w.heap.size w w' := by
  obtain ⟨A, c, hv, _⟩ := id h
  have hR := Lib.hid h
  have hN := Lib.hid hno
  clear h hno
  subst hv
  have h0 := Lib.hid (heap_alloc_new w (.cells #[.int .i64 0, .int .i64 0, .int .i64 0, .int .i64 0, .int .i64 0, .int .i64 0, .int .i64 0, .int .i64 0, .int .i64 0, .slice none 0 0, .slice none 0 0] 37))
  have hB0 := Lib.hid (below_alloc (Below.refl _ w) (.cells #[.int .i64 0, .int .i64 0, .int .i64 0, .int .i64 0, .int .i64 0, .int .i64 0, .int .i64 0, .int .i64 0, .int .i64 0, .slice none 0 0, .slice none 0 0] 37))
  go_enter Tryz.func17, Tryz.ntmps17
  go_wp2_with fail
  generalize w.alloc (.cells #[.int .i64 0, .int .i64 0, .int .i64 0, .int .i64 0, .int .i64 0, .int .i64 0, .int .i64 0, .int .i64 0, .int .i64 0, .slice none 0 0, .slice none 0 0] 37) = W0 at *
  refine (one_any _ bs _ (hR.out.below hB0.out) hl).mono ?_
  rintro e w1 (⟨p, A1, c1, hp, hbs, _⟩ | ⟨_, rfl, hB_⟩)
  · exact absurd hbs (hN.out p hp)
  have hB := Lib.hid (bnext hB0.out hB_)
  have hb := block_below hB_ h0.out
  have x0 : w1.cell? ⟨w.heap.size, 0, none⟩ = some (.int .i64 0) := by rw [block_cell hb]; rfl
  have f0 : w1.frozen? ⟨w.heap.size, 0, none⟩ = false := block_free hb 0
  have x1 : w1.cell? ⟨w.heap.size, 1, none⟩ = some (.int .i64 0) := by rw [block_cell hb]; rfl
  have f1 : w1.frozen? ⟨w.heap.size, 1, none⟩ = false := block_free hb 1
  have x2 : w1.cell? ⟨w.heap.size, 2, none⟩ = some (.int .i64 0) := by rw [block_cell hb]; rfl
  have f2 : w1.frozen? ⟨w.heap.size, 2, none⟩ = false := block_free hb 2
  have x3 : w1.cell? ⟨w.heap.size, 3, none⟩ = some (.int .i64 0) := by rw [block_cell hb]; rfl
  have f3 : w1.frozen? ⟨w.heap.size, 3, none⟩ = false := block_free hb 3
  have x4 : w1.cell? ⟨w.heap.size, 4, none⟩ = some (.int .i64 0) := by rw [block_cell hb]; rfl
  have f4 : w1.frozen? ⟨w.heap.size, 4, none⟩ = false := block_free hb 4
  have x5 : w1.cell? ⟨w.heap.size, 5, none⟩ = some (.int .i64 0) := by rw [block_cell hb]; rfl
  have f5 : w1.frozen? ⟨w.heap.size, 5, none⟩ = false := block_free hb 5
  have x6 : w1.cell? ⟨w.heap.size, 6, none⟩ = some (.int .i64 0) := by rw [block_cell hb]; rfl
  have f6 : w1.frozen? ⟨w.heap.size, 6, none⟩ = false := block_free hb 6
  have x7 : w1.cell? ⟨w.heap.size, 7, none⟩ = some (.int .i64 0) := by rw [block_cell hb]; rfl
  have f7 : w1.frozen? ⟨w.heap.size, 7, none⟩ = false := block_free hb 7
  have x8 : w1.cell? ⟨w.heap.size, 8, none⟩ = some (.int .i64 0) := by rw [block_cell hb]; rfl
  have f8 : w1.frozen? ⟨w.heap.size, 8, none⟩ = false := block_free hb 8
  have x9 : w1.cell? ⟨w.heap.size, 9, none⟩ = some (.slice none 0 0) := by rw [block_cell hb]; rfl
  have f9 : w1.frozen? ⟨w.heap.size, 9, none⟩ = false := block_free hb 9
  have x10 : w1.cell? ⟨w.heap.size, 10, none⟩ = some (.slice none 0 0) := by rw [block_cell hb]; rfl
  have f10 : w1.frozen? ⟨w.heap.size, 10, none⟩ = false := block_free hb 10
  have hK : Kept (· = w.heap.size) w1 (((((((((((w1.setCell ⟨w.heap.size, 0, none⟩ (.int .i64 0)).setCell ⟨w.heap.size, 1, none⟩ (.int .i64 0)).setCell ⟨w.heap.size, 2, none⟩ (.int .i64 0)).setCell ⟨w.heap.size, 3, none⟩ (.int .i64 0)).setCell ⟨w.heap.size, 4, none⟩ (.int .i64 0)).setCell ⟨w.heap.size, 5, none⟩ (.int .i64 0)).setCell ⟨w.heap.size, 6, none⟩ (.int .i64 0)).setCell ⟨w.heap.size, 7, none⟩ (.int .i64 0)).setCell ⟨w.heap.size, 8, none⟩ (.int .i64 0)).setCell ⟨w.heap.size, 9, none⟩ (.slice none 0 0)).setCell ⟨w.heap.size, 10, none⟩ (.slice none 0 0)) := (Kept.setCell (S := (· = w.heap.size)) (p := ⟨w.heap.size, 10, none⟩) (Kept.setCell (S := (· = w.heap.size)) (p := ⟨w.heap.size, 9, none⟩) (Kept.setCell (S := (· = w.heap.size)) (p := ⟨w.heap.size, 8, none⟩) (Kept.setCell (S := (· = w.heap.size)) (p := ⟨w.heap.size, 7, none⟩) (Kept.setCell (S := (· = w.heap.size)) (p := ⟨w.heap.size, 6, none⟩) (Kept.setCell (S := (· = w.heap.size)) (p := ⟨w.heap.size, 5, none⟩) (Kept.setCell (S := (· = w.heap.size)) (p := ⟨w.heap.size, 4, none⟩) (Kept.setCell (S := (· = w.heap.size)) (p := ⟨w.heap.size, 3, none⟩) (Kept.setCell (S := (· = w.heap.size)) (p := ⟨w.heap.size, 2, none⟩) (Kept.setCell (S := (· = w.heap.size)) (p := ⟨w.heap.size, 1, none⟩) (Kept.setCell (S := (· = w.heap.size)) (p := ⟨w.heap.size, 0, none⟩) (Kept.refl (· = w.heap.size) w1) (.inl rfl) (.int .i64 0)) (.inl rfl) (.int .i64 0)) (.inl rfl) (.int .i64 0)) (.inl rfl) (.int .i64 0)) (.inl rfl) (.int .i64 0)) (.inl rfl) (.int .i64 0)) (.inl rfl) (.int .i64 0)) (.inl rfl) (.int .i64 0)) (.inl rfl) (.int .i64 0)) (.inl rfl) (.slice none 0 0)) (.inl rfl) (.slice none 0 0))
  have hE := Lib.hid (kept_below hB.out hK (by rintro _ rfl; exact Nat.le_refl _))
  have hb2 := Lib.hid hb
  clear hB_ hK hb
  go_wp2_with fail
  have hb := hb2.out
  clear x0 f0 x1 f1 x2 f2 x3 f3 x4 f4 x5 f5 x6 f6 x7 f7 x8 f8 x9 f9 x10 f10

  have hs0 : (w1.setCell ⟨w.heap.size, 0, none⟩ (.int .i64 0)).heap[w.heap.size]? = some (.cells #[.int .i64 0, .int .i64 0, .int .i64 0, .int .i64 0, .int .i64 0, .int .i64 0, .int .i64 0, .int .i64 0, .int .i64 0, .slice none 0 0, .slice none 0 0] 37 (0, 0)) := block_setCell hb 0 _
  generalize w1.setCell ⟨w.heap.size, 0, none⟩ (.int .i64 0) = w1_1 at *
  have hs1 : (w1_1.setCell ⟨w.heap.size, 1, none⟩ (.int .i64 0)).heap[w.heap.size]? = some (.cells #[.int .i64 0, .int .i64 0, .int .i64 0, .int .i64 0, .int .i64 0, .int .i64 0, .int .i64 0, .int .i64 0, .int .i64 0, .slice none 0 0, .slice none 0 0] 37 (0, 0)) := block_setCell hs0 1 _
  generalize w1_1.setCell ⟨w.heap.size, 1, none⟩ (.int .i64 0) = w1_2 at *
  have hs2 : (w1_2.setCell ⟨w.heap.size, 2, none⟩ (.int .i64 0)).heap[w.heap.size]? = some (.cells #[.int .i64 0, .int .i64 0, .int .i64 0, .int .i64 0, .int .i64 0, .int .i64 0, .int .i64 0, .int .i64 0, .int .i64 0, .slice none 0 0, .slice none 0 0] 37 (0, 0)) := block_setCell hs1 2 _
  generalize w1_2.setCell ⟨w.heap.size, 2, none⟩ (.int .i64 0) = w1_3 at *
  have hs3 : (w1_3.setCell ⟨w.heap.size, 3, none⟩ (.int .i64 0)).heap[w.heap.size]? = some (.cells #[.int .i64 0, .int .i64 0, .int .i64 0, .int .i64 0, .int .i64 0, .int .i64 0, .int .i64 0, .int .i64 0, .int .i64 0, .slice none 0 0, .slice none 0 0] 37 (0, 0)) := block_setCell hs2 3 _
  generalize w1_3.setCell ⟨w.heap.size, 3, none⟩ (.int .i64 0) = w1_4 at *
  have hs4 : (w1_4.setCell ⟨w.heap.size, 4, none⟩ (.int .i64 0)).heap[w.heap.size]? = some (.cells #[.int .i64 0, .int .i64 0, .int .i64 0, .int .i64 0, .int .i64 0, .int .i64 0, .int .i64 0, .int .i64 0, .int .i64 0, .slice none 0 0, .slice none 0 0] 37 (0, 0)) := block_setCell hs3 4 _
  generalize w1_4.setCell ⟨w.heap.size, 4, none⟩ (.int .i64 0) = w1_5 at *
  have hs5 : (w1_5.setCell ⟨w.heap.size, 5, none⟩ (.int .i64 0)).heap[w.heap.size]? = some (.cells #[.int .i64 0, .int .i64 0, .int .i64 0, .int .i64 0, .int .i64 0, .int .i64 0, .int .i64 0, .int .i64 0, .int .i64 0, .slice none 0 0, .slice none 0 0] 37 (0, 0)) := block_setCell hs4 5 _
  generalize w1_5.setCell ⟨w.heap.size, 5, none⟩ (.int .i64 0) = w1_6 at *
  have hs6 : (w1_6.setCell ⟨w.heap.size, 6, none⟩ (.int .i64 0)).heap[w.heap.size]? = some (.cells #[.int .i64 0, .int .i64 0, .int .i64 0, .int .i64 0, .int .i64 0, .int .i64 0, .int .i64 0, .int .i64 0, .int .i64 0, .slice none 0 0, .slice none 0 0] 37 (0, 0)) := block_setCell hs5 6 _
  generalize w1_6.setCell ⟨w.heap.size, 6, none⟩ (.int .i64 0) = w1_7 at *
  have hs7 : (w1_7.setCell ⟨w.heap.size, 7, none⟩ (.int .i64 0)).heap[w.heap.size]? = some (.cells #[.int .i64 0, .int .i64 0, .int .i64 0, .int .i64 0, .int .i64 0, .int .i64 0, .int .i64 0, .int .i64 0, .int .i64 0, .slice none 0 0, .slice none 0 0] 37 (0, 0)) := block_setCell hs6 7 _
  generalize w1_7.setCell ⟨w.heap.size, 7, none⟩ (.int .i64 0) = w1_8 at *
  have hs8 : (w1_8.setCell ⟨w.heap.size, 8, none⟩ (.int .i64 0)).heap[w.heap.size]? = some (.cells #[.int .i64 0, .int .i64 0, .int .i64 0, .int .i64 0, .int .i64 0, .int .i64 0, .int .i64 0, .int .i64 0, .int .i64 0, .slice none 0 0, .slice none 0 0] 37 (0, 0)) := block_setCell hs7 8 _
  generalize w1_8.setCell ⟨w.heap.size, 8, none⟩ (.int .i64 0) = w1_9 at *
  have hs9 : (w1_9.setCell ⟨w.heap.size, 9, none⟩ (.slice none 0 0)).heap[w.heap.size]? = some (.cells #[.int .i64 0, .int .i64 0, .int .i64 0, .int .i64 0, .int .i64 0, .int .i64 0, .int .i64 0, .int .i64 0, .int .i64 0, .slice none 0 0, .slice none 0 0] 37 (0, 0)) := block_setCell hs8 9 _
  generalize w1_9.setCell ⟨w.heap.size, 9, none⟩ (.slice none 0 0) = w1_10 at *
  have hs10 : (w1_10.setCell ⟨w.heap.size, 10, none⟩ (.slice none 0 0)).heap[w.heap.size]? = some (.cells #[.int .i64 0, .int .i64 0, .int .i64 0, .int .i64 0, .int .i64 0, .int .i64 0, .int .i64 0, .int .i64 0, .int .i64 0, .slice none 0 0, .slice none 0 0] 37 (0, 0)) := block_setCell hs9 10 _
  generalize w1_10.setCell ⟨w.heap.size, 10, none⟩ (.slice none 0 0) = w1F at *
  have hWF := hs10
  clear hs0 hs1 hs2 hs3 hs4 hs5 hs6 hs7 hs8 hs9 hs10 hb
  have zx0 : w1F.cell? ⟨w.heap.size, 0, none⟩ = some (.int .i64 0) := by rw [block_cell hWF]; rfl
  have zf0 : w1F.frozen? ⟨w.heap.size, 0, none⟩ = false := block_free hWF 0
  have zx1 : w1F.cell? ⟨w.heap.size, 1, none⟩ = some (.int .i64 0) := by rw [block_cell hWF]; rfl
  have zf1 : w1F.frozen? ⟨w.heap.size, 1, none⟩ = false := block_free hWF 1
  have zx2 : w1F.cell? ⟨w.heap.size, 2, none⟩ = some (.int .i64 0) := by rw [block_cell hWF]; rfl
  have zf2 : w1F.frozen? ⟨w.heap.size, 2, none⟩ = false := block_free hWF 2
  have zx3 : w1F.cell? ⟨w.heap.size, 3, none⟩ = some (.int .i64 0) := by rw [block_cell hWF]; rfl
  have zf3 : w1F.frozen? ⟨w.heap.size, 3, none⟩ = false := block_free hWF 3
  have zx4 : w1F.cell? ⟨w.heap.size, 4, none⟩ = some (.int .i64 0) := by rw [block_cell hWF]; rfl
  have zf4 : w1F.frozen? ⟨w.heap.size, 4, none⟩ = false := block_free hWF 4
  have zx5 : w1F.cell? ⟨w.heap.size, 5, none⟩ = some (.int .i64 0) := by rw [block_cell hWF]; rfl
  have zf5 : w1F.frozen? ⟨w.heap.size, 5, none⟩ = false := block_free hWF 5
  have zx6 : w1F.cell? ⟨w.heap.size, 6, none⟩ = some (.int .i64 0) := by rw [block_cell hWF]; rfl
  have zf6 : w1F.frozen? ⟨w.heap.size, 6, none⟩ = false := block_free hWF 6
  have zx7 : w1F.cell? ⟨w.heap.size, 7, none⟩ = some (.int .i64 0) := by rw [block_cell hWF]; rfl
  have zf7 : w1F.frozen? ⟨w.heap.size, 7, none⟩ = false := block_free hWF 7
  have zx8 : w1F.cell? ⟨w.heap.size, 8, none⟩ = some (.int .i64 0) := by rw [block_cell hWF]; rfl
  have zf8 : w1F.frozen? ⟨w.heap.size, 8, none⟩ = false := block_free hWF 8
  have zx9 : w1F.cell? ⟨w.heap.size, 9, none⟩ = some (.slice none 0 0) := by rw [block_cell hWF]; rfl
  have zf9 : w1F.frozen? ⟨w.heap.size, 9, none⟩ = false := block_free hWF 9
  have zx10 : w1F.cell? ⟨w.heap.size, 10, none⟩ = some (.slice none 0 0) := by rw [block_cell hWF]; rfl
  have zf10 : w1F.frozen? ⟨w.heap.size, 10, none⟩ = false := block_free hWF 10
  clear hWF
  go_wp2_with fail
  refine bodyPost_ret (v := .tuple #[zeroV, .int .i64 6]) ?_ rfl ⟨rfl, hE.out⟩
  simp [results, Tryz.results17, go_sem, zeroV, *]

theorem wrapB_inj {p q : List UInt8} (hp : p.length ≤ 16384) (hq : q.length ≤ 16384) (h : wrapB p = wrapB q) : p = q := by
  have hl := frame_same (bs := wrapB p) (p := p) (p' := q) (rest := []) (rest' := []) ⟨hp, by simp⟩ ⟨hq, by simp [h]⟩
  unfold wrapB at h
  rw [hl] at h
  have h1 := (List.append_inj h (by simp [hl])).1
  exact (List.append_inj h1 rfl).2
set_option maxHeartbeats 2000000 in
theorem dec_good (m : PMsg) (v : Value) (w : World) (hm : mayM m = true) (h : RB w v (encM m)) (hG : GOk w) (hok : i64ok m.ticket ∧ (∀ n ∈ m.told, i64ok n) ∧ (∀ o ∈ m.ops, o.ok)) :
    Calls Tryz.prog 17 #[v] w fun e w' => ∃ A c B d, e = .returned (.tuple #[.agg (msgA m A c B d), .int .i64 0]) ∧ MsgR w' m A c B d ∧ FreshM w A B ∧ Below w.heap.size w w' := by
  have hE : encM m = wrapB (bodyM m) := by unfold encM; rw [hm]; rfl
  have hbl := bodyM_len hm
  have hf := mayM_facts hm
  have hck := checkO_len hf.ops
  have hl0 : m.ops.length ≤ 1000000 := by omega
  have hl1 : m.told.length ≤ 1000000 := by have := hf.told; omega
  have hk0 : ∀ o ∈ m.ops, o.key.size ≤ 1000000 := fun o ho => by have := key_le (hck.2 o ho).2; omega
  obtain ⟨bs, hbs⟩ : ∃ l, encM m = l := ⟨_, rfl⟩
  rw [hbs] at h hE
  have hll : bs.length ≤ 100000 := by rw [hE, wrapB_length]; omega
  have hRead := Lib.hid (fun v w hr => read_any m v w hm hr hok)
  have hMay := Lib.hid (fun A c B d W hr hG => may_any m A c B d W hr hl0 hl1 hk0 hG)
  have hEnc := Lib.hid (fun A c B d W hr hG => enc_any m A c B d W hr hG hl0 hl1 hk0)
  have hBS := Lib.hid hbs
  have hEE := Lib.hid hE
  have hBL := Lib.hid hbl
  have hMT := Lib.hid hm
  have hGG := Lib.hid hG
  obtain ⟨A, c, hv, _⟩ := id h
  have hR := Lib.hid h
  clear h hbs hE hbl hf hck hl0 hl1 hk0 hm hG
  subst hv
  obtain ⟨kind, from_, to_, g, node, try_, low, code, ticket, told, ops⟩ := m
  have h0 := Lib.hid (heap_alloc_new w (.cells #[.int .i64 0, .int .i64 0, .int .i64 0, .int .i64 0, .int .i64 0, .int .i64 0, .int .i64 0, .int .i64 0, .int .i64 0, .slice none 0 0, .slice none 0 0] 37))
  have hB0 := Lib.hid (below_alloc (Below.refl _ w) (.cells #[.int .i64 0, .int .i64 0, .int .i64 0, .int .i64 0, .int .i64 0, .int .i64 0, .int .i64 0, .int .i64 0, .int .i64 0, .slice none 0 0, .slice none 0 0] 37))
  go_enter Tryz.func17, Tryz.ntmps17
  go_wp2_with fail
  generalize w.alloc (.cells #[.int .i64 0, .int .i64 0, .int .i64 0, .int .i64 0, .int .i64 0, .int .i64 0, .int .i64 0, .int .i64 0, .int .i64 0, .slice none 0 0, .slice none 0 0] 37) = W0 at *
  refine (one_any _ bs _ (hR.out.below hB0.out) hll).mono ?_
  rintro e w1 (⟨p, A1, c1, hp, hbs, rfl, hO_, hB_⟩ | ⟨hno, _⟩)
  case inr => exact absurd hEE.out (hno _ (by have := hBL.out; omega))
  obtain rfl : p = bodyM ⟨kind, from_, to_, g, node, try_, low, code, ticket, told, ops⟩ := wrapB_inj hp (by have := hBL.out; omega) (hbs.symm.trans hEE.out)
  have hO1 := Lib.hid (RB.of_own hO_)
  have hB1 := Lib.hid hB_
  clear hO_ hB_ hbs
  go_wp2_with fail
  refine (hRead.out _ _ hO1.out).mono ?_
  rintro e w2 ⟨A9, c9, B9, d9, rfl, hM_, hFr_, hB_⟩
  have hFr := Lib.hid hFr_
  have hM2 := Lib.hid hM_
  have hB2 := Lib.hid (bnext hB1.out hB_)
  have h1s := Lib.hid hB1.out.size
  clear hM_ hFr_ hB_ hO1
  obtain ⟨q, hq⟩ : ∃ q, w2.heap.size = q := ⟨_, rfl⟩
  have hQ := Lib.hid hq
  have hQ3 := Lib.hid (heap_alloc_new w2 (.cells #[.int .i64 kind, .int .i64 from_, .int .i64 to_, .int .i64 g, .int .i64 node, .int .i64 try_, .int .i64 low, .int .i64 code, .int .i64 ticket, .slice A9 told.length c9, .slice B9 ops.length d9] 37))
  have hB3 := Lib.hid (below_alloc hB2.out (.cells #[.int .i64 kind, .int .i64 from_, .int .i64 to_, .int .i64 g, .int .i64 node, .int .i64 try_, .int .i64 low, .int .i64 code, .int .i64 ticket, .slice A9 told.length c9, .slice B9 ops.length d9] 37))
  have hA3 := Lib.hid (below_alloc (Below.refl _ w2) (.cells #[.int .i64 kind, .int .i64 from_, .int .i64 to_, .int .i64 g, .int .i64 node, .int .i64 try_, .int .i64 low, .int .i64 code, .int .i64 ticket, .slice A9 told.length c9, .slice B9 ops.length d9] 37))
  rw [hq] at hQ3
  simp only [msgA]
  go_wp2_with fail
  have hsz : w2.heap.size < (w2.alloc (.cells #[.int .i64 kind, .int .i64 from_, .int .i64 to_, .int .i64 g, .int .i64 node, .int .i64 try_, .int .i64 low, .int .i64 code, .int .i64 ticket, .slice A9 told.length c9, .slice B9 ops.length d9] 37)).heap.size := by rw [World.size_alloc]; omega
  rw [hq] at hsz
  generalize w2.alloc (.cells #[.int .i64 kind, .int .i64 from_, .int .i64 to_, .int .i64 g, .int .i64 node, .int .i64 try_, .int .i64 low, .int .i64 code, .int .i64 ticket, .slice A9 told.length c9, .slice B9 ops.length d9] 37) = W3 at *
  have hM3 := Lib.hid (hM2.out.below hA3.out)
  have hG3 := Lib.hid ((hGG.out.below hB0.out).below hB3.out)
  refine (hMay.out A9 c9 B9 d9 _ hM3.out.ops hG3.out).mono ?_
  rintro e w4 ⟨rfl, hB_⟩
  rw [hMT.out]
  have hB4 := Lib.hid (bnext hB3.out hB_)
  have hM4 := Lib.hid (hM3.out.below hB_)
  have hQ4 := Lib.hid (block_below hB_ hQ3.out)
  clear hB_ hA3
  have hb := hQ4.out
  have y0 : w4.cell? ⟨q, 0, none⟩ = some (.int .i64 kind) := by rw [block_cell hb]; rfl
  have y1 : w4.cell? ⟨q, 1, none⟩ = some (.int .i64 from_) := by rw [block_cell hb]; rfl
  have y2 : w4.cell? ⟨q, 2, none⟩ = some (.int .i64 to_) := by rw [block_cell hb]; rfl
  have y3 : w4.cell? ⟨q, 3, none⟩ = some (.int .i64 g) := by rw [block_cell hb]; rfl
  have y4 : w4.cell? ⟨q, 4, none⟩ = some (.int .i64 node) := by rw [block_cell hb]; rfl
  have y5 : w4.cell? ⟨q, 5, none⟩ = some (.int .i64 try_) := by rw [block_cell hb]; rfl
  have y6 : w4.cell? ⟨q, 6, none⟩ = some (.int .i64 low) := by rw [block_cell hb]; rfl
  have y7 : w4.cell? ⟨q, 7, none⟩ = some (.int .i64 code) := by rw [block_cell hb]; rfl
  have y8 : w4.cell? ⟨q, 8, none⟩ = some (.int .i64 ticket) := by rw [block_cell hb]; rfl
  have y9 : w4.cell? ⟨q, 9, none⟩ = some (.slice A9 told.length c9) := by rw [block_cell hb]; rfl
  have y10 : w4.cell? ⟨q, 10, none⟩ = some (.slice B9 ops.length d9) := by rw [block_cell hb]; rfl
  clear hb
  go_wp2_with fail
  refine (hEnc.out A9 c9 B9 d9 _ hM4.out ((hGG.out.below hB0.out).below hB4.out)).mono ?_
  rintro e w5 ⟨A5, d5, rfl, hO5_, hB_⟩
  rw [hBS.out] at hO5_ ⊢
  have hB5 := Lib.hid (bnext hB4.out hB_)
  have hM5 := Lib.hid (hM4.out.below hB_)
  have hQ5 := Lib.hid (block_below hB_ hQ4.out)
  have hR5 := Lib.hid (RB.of_own hO5_)
  clear hB_ hO5_
  clear y0 y1 y2 y3 y4 y5 y6 y7 y8 y9 y10
  go_wp2_with fail
  refine (slicesEq_any _ _ bs bs _ hR5.out ((hR.out.below hB0.out).below hB5.out) (by omega) (by omega)).mono ?_
  rintro e w6 ⟨rfl, hB_⟩
  rw [show decide (bs = bs) = true by simp]
  have hB6 := Lib.hid (bnext hB5.out hB_)
  have hM6 := Lib.hid (hM5.out.below hB_)
  have hQ6 := Lib.hid (block_below hB_ hQ5.out)
  have hr6 := Lib.hid (block_below hB6.out h0.out)
  clear hB_
  have hb := hQ6.out
  have y0 : w6.cell? ⟨q, 0, none⟩ = some (.int .i64 kind) := by rw [block_cell hb]; rfl
  have y1 : w6.cell? ⟨q, 1, none⟩ = some (.int .i64 from_) := by rw [block_cell hb]; rfl
  have y2 : w6.cell? ⟨q, 2, none⟩ = some (.int .i64 to_) := by rw [block_cell hb]; rfl
  have y3 : w6.cell? ⟨q, 3, none⟩ = some (.int .i64 g) := by rw [block_cell hb]; rfl
  have y4 : w6.cell? ⟨q, 4, none⟩ = some (.int .i64 node) := by rw [block_cell hb]; rfl
  have y5 : w6.cell? ⟨q, 5, none⟩ = some (.int .i64 try_) := by rw [block_cell hb]; rfl
  have y6 : w6.cell? ⟨q, 6, none⟩ = some (.int .i64 low) := by rw [block_cell hb]; rfl
  have y7 : w6.cell? ⟨q, 7, none⟩ = some (.int .i64 code) := by rw [block_cell hb]; rfl
  have y8 : w6.cell? ⟨q, 8, none⟩ = some (.int .i64 ticket) := by rw [block_cell hb]; rfl
  have y9 : w6.cell? ⟨q, 9, none⟩ = some (.slice A9 told.length c9) := by rw [block_cell hb]; rfl
  have y10 : w6.cell? ⟨q, 10, none⟩ = some (.slice B9 ops.length d9) := by rw [block_cell hb]; rfl
  have hb := hr6.out
  have x0 : w6.cell? ⟨w.heap.size, 0, none⟩ = some (.int .i64 0) := by rw [block_cell hb]; rfl
  have f0 : w6.frozen? ⟨w.heap.size, 0, none⟩ = false := block_free hb 0
  have x1 : w6.cell? ⟨w.heap.size, 1, none⟩ = some (.int .i64 0) := by rw [block_cell hb]; rfl
  have f1 : w6.frozen? ⟨w.heap.size, 1, none⟩ = false := block_free hb 1
  have x2 : w6.cell? ⟨w.heap.size, 2, none⟩ = some (.int .i64 0) := by rw [block_cell hb]; rfl
  have f2 : w6.frozen? ⟨w.heap.size, 2, none⟩ = false := block_free hb 2
  have x3 : w6.cell? ⟨w.heap.size, 3, none⟩ = some (.int .i64 0) := by rw [block_cell hb]; rfl
  have f3 : w6.frozen? ⟨w.heap.size, 3, none⟩ = false := block_free hb 3
  have x4 : w6.cell? ⟨w.heap.size, 4, none⟩ = some (.int .i64 0) := by rw [block_cell hb]; rfl
  have f4 : w6.frozen? ⟨w.heap.size, 4, none⟩ = false := block_free hb 4
  have x5 : w6.cell? ⟨w.heap.size, 5, none⟩ = some (.int .i64 0) := by rw [block_cell hb]; rfl
  have f5 : w6.frozen? ⟨w.heap.size, 5, none⟩ = false := block_free hb 5
  have x6 : w6.cell? ⟨w.heap.size, 6, none⟩ = some (.int .i64 0) := by rw [block_cell hb]; rfl
  have f6 : w6.frozen? ⟨w.heap.size, 6, none⟩ = false := block_free hb 6
  have x7 : w6.cell? ⟨w.heap.size, 7, none⟩ = some (.int .i64 0) := by rw [block_cell hb]; rfl
  have f7 : w6.frozen? ⟨w.heap.size, 7, none⟩ = false := block_free hb 7
  have x8 : w6.cell? ⟨w.heap.size, 8, none⟩ = some (.int .i64 0) := by rw [block_cell hb]; rfl
  have f8 : w6.frozen? ⟨w.heap.size, 8, none⟩ = false := block_free hb 8
  have x9 : w6.cell? ⟨w.heap.size, 9, none⟩ = some (.slice none 0 0) := by rw [block_cell hb]; rfl
  have f9 : w6.frozen? ⟨w.heap.size, 9, none⟩ = false := block_free hb 9
  have x10 : w6.cell? ⟨w.heap.size, 10, none⟩ = some (.slice none 0 0) := by rw [block_cell hb]; rfl
  have f10 : w6.frozen? ⟨w.heap.size, 10, none⟩ = false := block_free hb 10
  have hW6 : Below w.heap.size w w6 := bnext hB0.out hB6.out
  have hK : Kept (· = w.heap.size) w6 (((((((((((w6.setCell ⟨w.heap.size, 0, none⟩ (.int .i64 kind)).setCell ⟨w.heap.size, 1, none⟩ (.int .i64 from_)).setCell ⟨w.heap.size, 2, none⟩ (.int .i64 to_)).setCell ⟨w.heap.size, 3, none⟩ (.int .i64 g)).setCell ⟨w.heap.size, 4, none⟩ (.int .i64 node)).setCell ⟨w.heap.size, 5, none⟩ (.int .i64 try_)).setCell ⟨w.heap.size, 6, none⟩ (.int .i64 low)).setCell ⟨w.heap.size, 7, none⟩ (.int .i64 code)).setCell ⟨w.heap.size, 8, none⟩ (.int .i64 ticket)).setCell ⟨w.heap.size, 9, none⟩ (.slice A9 told.length c9)).setCell ⟨w.heap.size, 10, none⟩ (.slice B9 ops.length d9)) := (Kept.setCell (S := (· = w.heap.size)) (p := ⟨w.heap.size, 10, none⟩) (Kept.setCell (S := (· = w.heap.size)) (p := ⟨w.heap.size, 9, none⟩) (Kept.setCell (S := (· = w.heap.size)) (p := ⟨w.heap.size, 8, none⟩) (Kept.setCell (S := (· = w.heap.size)) (p := ⟨w.heap.size, 7, none⟩) (Kept.setCell (S := (· = w.heap.size)) (p := ⟨w.heap.size, 6, none⟩) (Kept.setCell (S := (· = w.heap.size)) (p := ⟨w.heap.size, 5, none⟩) (Kept.setCell (S := (· = w.heap.size)) (p := ⟨w.heap.size, 4, none⟩) (Kept.setCell (S := (· = w.heap.size)) (p := ⟨w.heap.size, 3, none⟩) (Kept.setCell (S := (· = w.heap.size)) (p := ⟨w.heap.size, 2, none⟩) (Kept.setCell (S := (· = w.heap.size)) (p := ⟨w.heap.size, 1, none⟩) (Kept.setCell (S := (· = w.heap.size)) (p := ⟨w.heap.size, 0, none⟩) (Kept.refl (· = w.heap.size) w6) (.inl rfl) (.int .i64 kind)) (.inl rfl) (.int .i64 from_)) (.inl rfl) (.int .i64 to_)) (.inl rfl) (.int .i64 g)) (.inl rfl) (.int .i64 node)) (.inl rfl) (.int .i64 try_)) (.inl rfl) (.int .i64 low)) (.inl rfl) (.int .i64 code)) (.inl rfl) (.int .i64 ticket)) (.inl rfl) (.slice A9 told.length c9)) (.inl rfl) (.slice B9 ops.length d9))
  have hr0 : w.heap.size < W0.heap.size := lt_of_block h0.out
  have hE := Lib.hid (kept_below hW6 hK (by rintro _ rfl; exact Nat.le_refl _))
  have hMF := Lib.hid (MsgR.kept hM6.out hK (fun ad ha => by have := hFr.out.1 ad ha; have := h1s.out; omega) (fun ad ha => by have := hFr.out.2 ad ha; have := h1s.out; omega))
  clear hb hW6 hK
  go_wp2_with fail
  have hb := hr6.out
  have hs0 : (w6.setCell ⟨w.heap.size, 0, none⟩ (.int .i64 kind)).heap[w.heap.size]? = some (.cells #[.int .i64 kind, .int .i64 0, .int .i64 0, .int .i64 0, .int .i64 0, .int .i64 0, .int .i64 0, .int .i64 0, .int .i64 0, .slice none 0 0, .slice none 0 0] 37 (0, 0)) := block_setCell hb 0 _
  generalize w6.setCell ⟨w.heap.size, 0, none⟩ (.int .i64 kind) = w6_1 at *
  have hs1 : (w6_1.setCell ⟨w.heap.size, 1, none⟩ (.int .i64 from_)).heap[w.heap.size]? = some (.cells #[.int .i64 kind, .int .i64 from_, .int .i64 0, .int .i64 0, .int .i64 0, .int .i64 0, .int .i64 0, .int .i64 0, .int .i64 0, .slice none 0 0, .slice none 0 0] 37 (0, 0)) := block_setCell hs0 1 _
  generalize w6_1.setCell ⟨w.heap.size, 1, none⟩ (.int .i64 from_) = w6_2 at *
  have hs2 : (w6_2.setCell ⟨w.heap.size, 2, none⟩ (.int .i64 to_)).heap[w.heap.size]? = some (.cells #[.int .i64 kind, .int .i64 from_, .int .i64 to_, .int .i64 0, .int .i64 0, .int .i64 0, .int .i64 0, .int .i64 0, .int .i64 0, .slice none 0 0, .slice none 0 0] 37 (0, 0)) := block_setCell hs1 2 _
  generalize w6_2.setCell ⟨w.heap.size, 2, none⟩ (.int .i64 to_) = w6_3 at *
  have hs3 : (w6_3.setCell ⟨w.heap.size, 3, none⟩ (.int .i64 g)).heap[w.heap.size]? = some (.cells #[.int .i64 kind, .int .i64 from_, .int .i64 to_, .int .i64 g, .int .i64 0, .int .i64 0, .int .i64 0, .int .i64 0, .int .i64 0, .slice none 0 0, .slice none 0 0] 37 (0, 0)) := block_setCell hs2 3 _
  generalize w6_3.setCell ⟨w.heap.size, 3, none⟩ (.int .i64 g) = w6_4 at *
  have hs4 : (w6_4.setCell ⟨w.heap.size, 4, none⟩ (.int .i64 node)).heap[w.heap.size]? = some (.cells #[.int .i64 kind, .int .i64 from_, .int .i64 to_, .int .i64 g, .int .i64 node, .int .i64 0, .int .i64 0, .int .i64 0, .int .i64 0, .slice none 0 0, .slice none 0 0] 37 (0, 0)) := block_setCell hs3 4 _
  generalize w6_4.setCell ⟨w.heap.size, 4, none⟩ (.int .i64 node) = w6_5 at *
  have hs5 : (w6_5.setCell ⟨w.heap.size, 5, none⟩ (.int .i64 try_)).heap[w.heap.size]? = some (.cells #[.int .i64 kind, .int .i64 from_, .int .i64 to_, .int .i64 g, .int .i64 node, .int .i64 try_, .int .i64 0, .int .i64 0, .int .i64 0, .slice none 0 0, .slice none 0 0] 37 (0, 0)) := block_setCell hs4 5 _
  generalize w6_5.setCell ⟨w.heap.size, 5, none⟩ (.int .i64 try_) = w6_6 at *
  have hs6 : (w6_6.setCell ⟨w.heap.size, 6, none⟩ (.int .i64 low)).heap[w.heap.size]? = some (.cells #[.int .i64 kind, .int .i64 from_, .int .i64 to_, .int .i64 g, .int .i64 node, .int .i64 try_, .int .i64 low, .int .i64 0, .int .i64 0, .slice none 0 0, .slice none 0 0] 37 (0, 0)) := block_setCell hs5 6 _
  generalize w6_6.setCell ⟨w.heap.size, 6, none⟩ (.int .i64 low) = w6_7 at *
  have hs7 : (w6_7.setCell ⟨w.heap.size, 7, none⟩ (.int .i64 code)).heap[w.heap.size]? = some (.cells #[.int .i64 kind, .int .i64 from_, .int .i64 to_, .int .i64 g, .int .i64 node, .int .i64 try_, .int .i64 low, .int .i64 code, .int .i64 0, .slice none 0 0, .slice none 0 0] 37 (0, 0)) := block_setCell hs6 7 _
  generalize w6_7.setCell ⟨w.heap.size, 7, none⟩ (.int .i64 code) = w6_8 at *
  have hs8 : (w6_8.setCell ⟨w.heap.size, 8, none⟩ (.int .i64 ticket)).heap[w.heap.size]? = some (.cells #[.int .i64 kind, .int .i64 from_, .int .i64 to_, .int .i64 g, .int .i64 node, .int .i64 try_, .int .i64 low, .int .i64 code, .int .i64 ticket, .slice none 0 0, .slice none 0 0] 37 (0, 0)) := block_setCell hs7 8 _
  generalize w6_8.setCell ⟨w.heap.size, 8, none⟩ (.int .i64 ticket) = w6_9 at *
  have hs9 : (w6_9.setCell ⟨w.heap.size, 9, none⟩ (.slice A9 told.length c9)).heap[w.heap.size]? = some (.cells #[.int .i64 kind, .int .i64 from_, .int .i64 to_, .int .i64 g, .int .i64 node, .int .i64 try_, .int .i64 low, .int .i64 code, .int .i64 ticket, .slice A9 told.length c9, .slice none 0 0] 37 (0, 0)) := block_setCell hs8 9 _
  generalize w6_9.setCell ⟨w.heap.size, 9, none⟩ (.slice A9 told.length c9) = w6_10 at *
  have hs10 : (w6_10.setCell ⟨w.heap.size, 10, none⟩ (.slice B9 ops.length d9)).heap[w.heap.size]? = some (.cells #[.int .i64 kind, .int .i64 from_, .int .i64 to_, .int .i64 g, .int .i64 node, .int .i64 try_, .int .i64 low, .int .i64 code, .int .i64 ticket, .slice A9 told.length c9, .slice B9 ops.length d9] 37 (0, 0)) := block_setCell hs9 10 _
  generalize w6_10.setCell ⟨w.heap.size, 10, none⟩ (.slice B9 ops.length d9) = w6F at *
  have hWF := hs10
  clear hs0 hs1 hs2 hs3 hs4 hs5 hs6 hs7 hs8 hs9 hs10 hb
  have zx0 : w6F.cell? ⟨w.heap.size, 0, none⟩ = some (.int .i64 kind) := by rw [block_cell hWF]; rfl
  have zf0 : w6F.frozen? ⟨w.heap.size, 0, none⟩ = false := block_free hWF 0
  have zx1 : w6F.cell? ⟨w.heap.size, 1, none⟩ = some (.int .i64 from_) := by rw [block_cell hWF]; rfl
  have zf1 : w6F.frozen? ⟨w.heap.size, 1, none⟩ = false := block_free hWF 1
  have zx2 : w6F.cell? ⟨w.heap.size, 2, none⟩ = some (.int .i64 to_) := by rw [block_cell hWF]; rfl
  have zf2 : w6F.frozen? ⟨w.heap.size, 2, none⟩ = false := block_free hWF 2
  have zx3 : w6F.cell? ⟨w.heap.size, 3, none⟩ = some (.int .i64 g) := by rw [block_cell hWF]; rfl
  have zf3 : w6F.frozen? ⟨w.heap.size, 3, none⟩ = false := block_free hWF 3
  have zx4 : w6F.cell? ⟨w.heap.size, 4, none⟩ = some (.int .i64 node) := by rw [block_cell hWF]; rfl
  have zf4 : w6F.frozen? ⟨w.heap.size, 4, none⟩ = false := block_free hWF 4
  have zx5 : w6F.cell? ⟨w.heap.size, 5, none⟩ = some (.int .i64 try_) := by rw [block_cell hWF]; rfl
  have zf5 : w6F.frozen? ⟨w.heap.size, 5, none⟩ = false := block_free hWF 5
  have zx6 : w6F.cell? ⟨w.heap.size, 6, none⟩ = some (.int .i64 low) := by rw [block_cell hWF]; rfl
  have zf6 : w6F.frozen? ⟨w.heap.size, 6, none⟩ = false := block_free hWF 6
  have zx7 : w6F.cell? ⟨w.heap.size, 7, none⟩ = some (.int .i64 code) := by rw [block_cell hWF]; rfl
  have zf7 : w6F.frozen? ⟨w.heap.size, 7, none⟩ = false := block_free hWF 7
  have zx8 : w6F.cell? ⟨w.heap.size, 8, none⟩ = some (.int .i64 ticket) := by rw [block_cell hWF]; rfl
  have zf8 : w6F.frozen? ⟨w.heap.size, 8, none⟩ = false := block_free hWF 8
  have zx9 : w6F.cell? ⟨w.heap.size, 9, none⟩ = some (.slice A9 told.length c9) := by rw [block_cell hWF]; rfl
  have zf9 : w6F.frozen? ⟨w.heap.size, 9, none⟩ = false := block_free hWF 9
  have zx10 : w6F.cell? ⟨w.heap.size, 10, none⟩ = some (.slice B9 ops.length d9) := by rw [block_cell hWF]; rfl
  have zf10 : w6F.frozen? ⟨w.heap.size, 10, none⟩ = false := block_free hWF 10
  clear hWF
  go_wp2_with fail
  refine bodyPost_ret (v := .tuple #[.agg (msgA ⟨kind, from_, to_, g, node, try_, low, code, ticket, told, ops⟩ A9 c9 B9 d9), .int .i64 0]) ?_ rfl ⟨A9, c9, B9, d9, rfl, hMF.out, ⟨fun ad ha => by have := hFr.out.1 ad ha; have := h1s.out; omega, fun ad ha => by have := hFr.out.2 ad ha; have := h1s.out; omega⟩, hE.out⟩
  simp [results, Tryz.results17, go_sem, msgA, *]

end Go.Proofs.YteeiacfddjhhkaaGreatDoor
