/- mess.Decode at bytes that are no message's: the zero message, and ErrForm. net.Deliver of a packet: one that waits; a message's bytes; bytes that are no frame. -/
import Derived.Test.YteeiacfddjhhkaaGreatDoorSafe5
import Derived.Test.YteeiacfddjhhkaaGreatDoorDec
import Derived.Test.YteeiacfddjhhkaaGreatDoorApp
namespace Go.Proofs.YteeiacfddjhhkaaGreatDoor
open Go.RowKit
set_option maxRecDepth 100000

set_option maxHeartbeats 2000000 in
theorem dec_none (v : Value) (bs : List UInt8) (w : World) (h : RB w v bs) (hl : bs.length ≤ 100000) (hG : GOk w) (hno : ∀ m : PMsg, mayM m = true → (i64ok m.ticket ∧ (∀ n ∈ m.told, i64ok n) ∧ (∀ o ∈ m.ops, o.ok)) → encM m ≠ bs) :
    Calls Tryz.prog 17 #[v] w fun e w' => e = .returned (.tuple #[zeroV, .int .i64 6]) ∧ Below w.heap.size w w' := by
  obtain ⟨A, c, hv, _⟩ := id h
  have hR := Lib.hid h
  have hN := Lib.hid hno
  have hGG := Lib.hid hG
  clear h hno hG
  subst hv
  have h0 := Lib.hid (heap_alloc_new w (.cells #[.int .i64 0, .int .i64 0, .int .i64 0, .int .i64 0, .int .i64 0, .int .i64 0, .int .i64 0, .int .i64 0, .int .i64 0, .slice none 0 0, .slice none 0 0] 37))
  have hB0 := Lib.hid (below_alloc (Below.refl _ w) (.cells #[.int .i64 0, .int .i64 0, .int .i64 0, .int .i64 0, .int .i64 0, .int .i64 0, .int .i64 0, .int .i64 0, .int .i64 0, .slice none 0 0, .slice none 0 0] 37))
  go_enter Tryz.func17, Tryz.ntmps17
  go_wp2_with fail
  generalize w.alloc (.cells #[.int .i64 0, .int .i64 0, .int .i64 0, .int .i64 0, .int .i64 0, .int .i64 0, .int .i64 0, .int .i64 0, .int .i64 0, .slice none 0 0, .slice none 0 0] 37) = W0 at *
  refine (one_any _ bs _ (hR.out.below hB0.out) hl).mono ?_
  rintro e w1 (⟨p, A1, c1, hp, hbs, rfl, hO_, hB_⟩ | ⟨_, rfl, hB_⟩)
  case inr =>
    have hB1 := Lib.hid hB_
    clear hB_
    have hB9 := Lib.hid (bnext hB0.out hB1.out)
    have hb := block_below hB1.out h0.out
    obtain ⟨x0, x1, x2, x3, x4, x5, x6, x7, x8, x9, x10⟩ := msg_cells hb
    obtain ⟨f0, f1, f2, f3, f4, f5, f6, f7, f8, f9, f10⟩ := msg_free hb
    obtain ⟨WSF, hch_, hs10_, hK⟩ := msg_stored hb (.int .i64 0) (.int .i64 0) (.int .i64 0) (.int .i64 0) (.int .i64 0) (.int .i64 0) (.int .i64 0) (.int .i64 0) (.int .i64 0) (.slice none 0 0) (.slice none 0 0)
    have hCH := Lib.hid hch_
    have hs10H := Lib.hid hs10_
    clear hch_ hs10_
    have hE := Lib.hid (kept_below hB9.out hK (by rintro _ rfl; exact Nat.le_refl _))
    have hb2 := Lib.hid hb
    clear hK hb
    go_wp2_with fail
    have hb := hb2.out
    clear x0 f0 x1 f1 x2 f2 x3 f3 x4 f4 x5 f5 x6 f6 x7 f7 x8 f8 x9 f9 x10 f10

    rw [hCH.out]
    have hs10 := hs10H.out
    have hWF := hs10
    clear hs10 hb
    obtain ⟨zx0, zx1, zx2, zx3, zx4, zx5, zx6, zx7, zx8, zx9, zx10⟩ := msg_cells hWF
    obtain ⟨zf0, zf1, zf2, zf3, zf4, zf5, zf6, zf7, zf8, zf9, zf10⟩ := msg_free hWF
    clear hWF
    go_wp2_with fail
    refine bodyPost_ret (v := .tuple #[zeroV, .int .i64 6]) ?_ rfl ⟨rfl, hE.out⟩
    simp [results, Tryz.results17, go_sem, zeroV, *]
  have hO1 := Lib.hid (RB.of_own hO_)
  have hB1 := Lib.hid hB_
  clear hO_ hB_ hbs
  go_wp2_with fail
  refine (read_s _ p _ hO1.out (by omega) ((hGG.out.below hB0.out).below hB1.out)).mono ?_
  rintro e w2 ⟨m, A9, c9, B9, d9, ev, rfl, hM_, hFr_, hev, ht8, ho64, hB_⟩
  have hM2 := Lib.hid hM_
  have hB2 := Lib.hid (bnext hB1.out hB_)
  clear hM_ hFr_ hB_ hO1
  obtain ⟨kind, from_, to_, g, node, try_, low, code, ticket, told, ops⟩ := m
  simp only at ht8 ho64
  have hMay := Lib.hid (fun W hr hG => may_any ⟨kind, from_, to_, g, node, try_, low, code, ticket, told, ops⟩ A9 c9 B9 d9 W hr hM2.out.opsle hM2.out.toldle hM2.out.keys hG)
  have hEnc := Lib.hid (fun W hr hG => enc_any ⟨kind, from_, to_, g, node, try_, low, code, ticket, told, ops⟩ A9 c9 B9 d9 W hr hG hM2.out.opsle hM2.out.toldle hM2.out.keys)
  obtain ⟨q, hq⟩ : ∃ q, w2.heap.size = q := ⟨_, rfl⟩
  have hQ := Lib.hid hq
  have hQ3 := Lib.hid (heap_alloc_new w2 (.cells #[.int .i64 kind, .int .i64 from_, .int .i64 to_, .int .i64 g, .int .i64 node, .int .i64 try_, .int .i64 low, .int .i64 code, .int .i64 ticket, .slice A9 told.length c9, .slice B9 ops.length d9] 37))
  have hB3 := Lib.hid (below_alloc hB2.out (.cells #[.int .i64 kind, .int .i64 from_, .int .i64 to_, .int .i64 g, .int .i64 node, .int .i64 try_, .int .i64 low, .int .i64 code, .int .i64 ticket, .slice A9 told.length c9, .slice B9 ops.length d9] 37))
  have hA3 := Lib.hid (below_alloc (Below.refl _ w2) (.cells #[.int .i64 kind, .int .i64 from_, .int .i64 to_, .int .i64 g, .int .i64 node, .int .i64 try_, .int .i64 low, .int .i64 code, .int .i64 ticket, .slice A9 told.length c9, .slice B9 ops.length d9] 37))
  rw [hq] at hQ3
  simp only [msgA]
  rcases hev with rfl | ⟨T, b, rfl⟩
  case inr =>
    have hB9 := Lib.hid (bnext hB0.out hB3.out)
    have hb := block_below hB3.out h0.out
    obtain ⟨x0, x1, x2, x3, x4, x5, x6, x7, x8, x9, x10⟩ := msg_cells hb
    obtain ⟨f0, f1, f2, f3, f4, f5, f6, f7, f8, f9, f10⟩ := msg_free hb
    have hK : Kept (· = w.heap.size) (w2.alloc (.cells #[.int .i64 kind, .int .i64 from_, .int .i64 to_, .int .i64 g, .int .i64 node, .int .i64 try_, .int .i64 low, .int .i64 code, .int .i64 ticket, .slice A9 told.length c9, .slice B9 ops.length d9] 37)) ((((((((((((w2.alloc (.cells #[.int .i64 kind, .int .i64 from_, .int .i64 to_, .int .i64 g, .int .i64 node, .int .i64 try_, .int .i64 low, .int .i64 code, .int .i64 ticket, .slice A9 told.length c9, .slice B9 ops.length d9] 37)).setCell ⟨w.heap.size, 0, none⟩ (.int .i64 0)).setCell ⟨w.heap.size, 1, none⟩ (.int .i64 0)).setCell ⟨w.heap.size, 2, none⟩ (.int .i64 0)).setCell ⟨w.heap.size, 3, none⟩ (.int .i64 0)).setCell ⟨w.heap.size, 4, none⟩ (.int .i64 0)).setCell ⟨w.heap.size, 5, none⟩ (.int .i64 0)).setCell ⟨w.heap.size, 6, none⟩ (.int .i64 0)).setCell ⟨w.heap.size, 7, none⟩ (.int .i64 0)).setCell ⟨w.heap.size, 8, none⟩ (.int .i64 0)).setCell ⟨w.heap.size, 9, none⟩ (.slice none 0 0)).setCell ⟨w.heap.size, 10, none⟩ (.slice none 0 0)) := (Kept.setCell (S := (· = w.heap.size)) (p := ⟨w.heap.size, 10, none⟩) (Kept.setCell (S := (· = w.heap.size)) (p := ⟨w.heap.size, 9, none⟩) (Kept.setCell (S := (· = w.heap.size)) (p := ⟨w.heap.size, 8, none⟩) (Kept.setCell (S := (· = w.heap.size)) (p := ⟨w.heap.size, 7, none⟩) (Kept.setCell (S := (· = w.heap.size)) (p := ⟨w.heap.size, 6, none⟩) (Kept.setCell (S := (· = w.heap.size)) (p := ⟨w.heap.size, 5, none⟩) (Kept.setCell (S := (· = w.heap.size)) (p := ⟨w.heap.size, 4, none⟩) (Kept.setCell (S := (· = w.heap.size)) (p := ⟨w.heap.size, 3, none⟩) (Kept.setCell (S := (· = w.heap.size)) (p := ⟨w.heap.size, 2, none⟩) (Kept.setCell (S := (· = w.heap.size)) (p := ⟨w.heap.size, 1, none⟩) (Kept.setCell (S := (· = w.heap.size)) (p := ⟨w.heap.size, 0, none⟩) (Kept.refl (· = w.heap.size) (w2.alloc (.cells #[.int .i64 kind, .int .i64 from_, .int .i64 to_, .int .i64 g, .int .i64 node, .int .i64 try_, .int .i64 low, .int .i64 code, .int .i64 ticket, .slice A9 told.length c9, .slice B9 ops.length d9] 37))) (.inl rfl) (.int .i64 0)) (.inl rfl) (.int .i64 0)) (.inl rfl) (.int .i64 0)) (.inl rfl) (.int .i64 0)) (.inl rfl) (.int .i64 0)) (.inl rfl) (.int .i64 0)) (.inl rfl) (.int .i64 0)) (.inl rfl) (.int .i64 0)) (.inl rfl) (.int .i64 0)) (.inl rfl) (.slice none 0 0)) (.inl rfl) (.slice none 0 0))
    have hE := Lib.hid (kept_below hB9.out hK (by rintro _ rfl; exact Nat.le_refl _))
    have hb2 := Lib.hid hb
    clear hK hb
    go_wp2_with fail
    have hb := hb2.out
    clear x0 f0 x1 f1 x2 f2 x3 f3 x4 f4 x5 f5 x6 f6 x7 f7 x8 f8 x9 f9 x10 f10

    have hs0 : ((w2.alloc (.cells #[.int .i64 kind, .int .i64 from_, .int .i64 to_, .int .i64 g, .int .i64 node, .int .i64 try_, .int .i64 low, .int .i64 code, .int .i64 ticket, .slice A9 told.length c9, .slice B9 ops.length d9] 37)).setCell ⟨w.heap.size, 0, none⟩ (.int .i64 0)).heap[w.heap.size]? = some (.cells #[.int .i64 0, .int .i64 0, .int .i64 0, .int .i64 0, .int .i64 0, .int .i64 0, .int .i64 0, .int .i64 0, .int .i64 0, .slice none 0 0, .slice none 0 0] 37 (0, 0)) := block_setCell hb 0 _
    generalize (w2.alloc (.cells #[.int .i64 kind, .int .i64 from_, .int .i64 to_, .int .i64 g, .int .i64 node, .int .i64 try_, .int .i64 low, .int .i64 code, .int .i64 ticket, .slice A9 told.length c9, .slice B9 ops.length d9] 37)).setCell ⟨w.heap.size, 0, none⟩ (.int .i64 0) = WS_1 at *
    have hs1 : (WS_1.setCell ⟨w.heap.size, 1, none⟩ (.int .i64 0)).heap[w.heap.size]? = some (.cells #[.int .i64 0, .int .i64 0, .int .i64 0, .int .i64 0, .int .i64 0, .int .i64 0, .int .i64 0, .int .i64 0, .int .i64 0, .slice none 0 0, .slice none 0 0] 37 (0, 0)) := block_setCell hs0 1 _
    generalize WS_1.setCell ⟨w.heap.size, 1, none⟩ (.int .i64 0) = WS_2 at *
    have hs2 : (WS_2.setCell ⟨w.heap.size, 2, none⟩ (.int .i64 0)).heap[w.heap.size]? = some (.cells #[.int .i64 0, .int .i64 0, .int .i64 0, .int .i64 0, .int .i64 0, .int .i64 0, .int .i64 0, .int .i64 0, .int .i64 0, .slice none 0 0, .slice none 0 0] 37 (0, 0)) := block_setCell hs1 2 _
    generalize WS_2.setCell ⟨w.heap.size, 2, none⟩ (.int .i64 0) = WS_3 at *
    have hs3 : (WS_3.setCell ⟨w.heap.size, 3, none⟩ (.int .i64 0)).heap[w.heap.size]? = some (.cells #[.int .i64 0, .int .i64 0, .int .i64 0, .int .i64 0, .int .i64 0, .int .i64 0, .int .i64 0, .int .i64 0, .int .i64 0, .slice none 0 0, .slice none 0 0] 37 (0, 0)) := block_setCell hs2 3 _
    generalize WS_3.setCell ⟨w.heap.size, 3, none⟩ (.int .i64 0) = WS_4 at *
    have hs4 : (WS_4.setCell ⟨w.heap.size, 4, none⟩ (.int .i64 0)).heap[w.heap.size]? = some (.cells #[.int .i64 0, .int .i64 0, .int .i64 0, .int .i64 0, .int .i64 0, .int .i64 0, .int .i64 0, .int .i64 0, .int .i64 0, .slice none 0 0, .slice none 0 0] 37 (0, 0)) := block_setCell hs3 4 _
    generalize WS_4.setCell ⟨w.heap.size, 4, none⟩ (.int .i64 0) = WS_5 at *
    have hs5 : (WS_5.setCell ⟨w.heap.size, 5, none⟩ (.int .i64 0)).heap[w.heap.size]? = some (.cells #[.int .i64 0, .int .i64 0, .int .i64 0, .int .i64 0, .int .i64 0, .int .i64 0, .int .i64 0, .int .i64 0, .int .i64 0, .slice none 0 0, .slice none 0 0] 37 (0, 0)) := block_setCell hs4 5 _
    generalize WS_5.setCell ⟨w.heap.size, 5, none⟩ (.int .i64 0) = WS_6 at *
    have hs6 : (WS_6.setCell ⟨w.heap.size, 6, none⟩ (.int .i64 0)).heap[w.heap.size]? = some (.cells #[.int .i64 0, .int .i64 0, .int .i64 0, .int .i64 0, .int .i64 0, .int .i64 0, .int .i64 0, .int .i64 0, .int .i64 0, .slice none 0 0, .slice none 0 0] 37 (0, 0)) := block_setCell hs5 6 _
    generalize WS_6.setCell ⟨w.heap.size, 6, none⟩ (.int .i64 0) = WS_7 at *
    have hs7 : (WS_7.setCell ⟨w.heap.size, 7, none⟩ (.int .i64 0)).heap[w.heap.size]? = some (.cells #[.int .i64 0, .int .i64 0, .int .i64 0, .int .i64 0, .int .i64 0, .int .i64 0, .int .i64 0, .int .i64 0, .int .i64 0, .slice none 0 0, .slice none 0 0] 37 (0, 0)) := block_setCell hs6 7 _
    generalize WS_7.setCell ⟨w.heap.size, 7, none⟩ (.int .i64 0) = WS_8 at *
    have hs8 : (WS_8.setCell ⟨w.heap.size, 8, none⟩ (.int .i64 0)).heap[w.heap.size]? = some (.cells #[.int .i64 0, .int .i64 0, .int .i64 0, .int .i64 0, .int .i64 0, .int .i64 0, .int .i64 0, .int .i64 0, .int .i64 0, .slice none 0 0, .slice none 0 0] 37 (0, 0)) := block_setCell hs7 8 _
    generalize WS_8.setCell ⟨w.heap.size, 8, none⟩ (.int .i64 0) = WS_9 at *
    have hs9 : (WS_9.setCell ⟨w.heap.size, 9, none⟩ (.slice none 0 0)).heap[w.heap.size]? = some (.cells #[.int .i64 0, .int .i64 0, .int .i64 0, .int .i64 0, .int .i64 0, .int .i64 0, .int .i64 0, .int .i64 0, .int .i64 0, .slice none 0 0, .slice none 0 0] 37 (0, 0)) := block_setCell hs8 9 _
    generalize WS_9.setCell ⟨w.heap.size, 9, none⟩ (.slice none 0 0) = WS_10 at *
    have hs10 : (WS_10.setCell ⟨w.heap.size, 10, none⟩ (.slice none 0 0)).heap[w.heap.size]? = some (.cells #[.int .i64 0, .int .i64 0, .int .i64 0, .int .i64 0, .int .i64 0, .int .i64 0, .int .i64 0, .int .i64 0, .int .i64 0, .slice none 0 0, .slice none 0 0] 37 (0, 0)) := block_setCell hs9 10 _
    generalize WS_10.setCell ⟨w.heap.size, 10, none⟩ (.slice none 0 0) = WSF at *
    have hWF := hs10
    clear hs0 hs1 hs2 hs3 hs4 hs5 hs6 hs7 hs8 hs9 hs10 hb
    obtain ⟨zx0, zx1, zx2, zx3, zx4, zx5, zx6, zx7, zx8, zx9, zx10⟩ := msg_cells hWF
    obtain ⟨zf0, zf1, zf2, zf3, zf4, zf5, zf6, zf7, zf8, zf9, zf10⟩ := msg_free hWF
    clear hWF
    go_wp2_with fail
    refine bodyPost_ret (v := .tuple #[zeroV, .int .i64 6]) ?_ rfl ⟨rfl, hE.out⟩
    simp [results, Tryz.results17, go_sem, zeroV, *]
  go_wp2_with fail
  generalize w2.alloc (.cells #[.int .i64 kind, .int .i64 from_, .int .i64 to_, .int .i64 g, .int .i64 node, .int .i64 try_, .int .i64 low, .int .i64 code, .int .i64 ticket, .slice A9 told.length c9, .slice B9 ops.length d9] 37) = W3 at *
  have hM3 := Lib.hid (hM2.out.below hA3.out)
  have hG3 := Lib.hid ((hGG.out.below hB0.out).below hB3.out)
  refine (hMay.out _ hM3.out.ops hG3.out).mono ?_
  rintro e w4 ⟨rfl, hB_⟩
  have hB4 := Lib.hid (bnext hB3.out hB_)
  have hM4 := Lib.hid (hM3.out.below hB_)
  have hQ4 := Lib.hid (block_below hB_ hQ3.out)
  clear hB_ hA3
  cases hmt : mayM ⟨kind, from_, to_, g, node, try_, low, code, ticket, told, ops⟩
  case false =>
    have hB9 := Lib.hid (bnext hB0.out hB4.out)
    have hb := block_below hB4.out h0.out
    obtain ⟨x0, x1, x2, x3, x4, x5, x6, x7, x8, x9, x10⟩ := msg_cells hb
    obtain ⟨f0, f1, f2, f3, f4, f5, f6, f7, f8, f9, f10⟩ := msg_free hb
    obtain ⟨WSF, hch_, hs10_, hK⟩ := msg_stored hb (.int .i64 0) (.int .i64 0) (.int .i64 0) (.int .i64 0) (.int .i64 0) (.int .i64 0) (.int .i64 0) (.int .i64 0) (.int .i64 0) (.slice none 0 0) (.slice none 0 0)
    have hCH := Lib.hid hch_
    have hs10H := Lib.hid hs10_
    clear hch_ hs10_
    have hE := Lib.hid (kept_below hB9.out hK (by rintro _ rfl; exact Nat.le_refl _))
    have hb2 := Lib.hid hb
    clear hK hb
    go_wp2_with fail
    have hb := hb2.out
    clear x0 f0 x1 f1 x2 f2 x3 f3 x4 f4 x5 f5 x6 f6 x7 f7 x8 f8 x9 f9 x10 f10

    rw [hCH.out]
    have hs10 := hs10H.out
    have hWF := hs10
    clear hs10 hb
    obtain ⟨zx0, zx1, zx2, zx3, zx4, zx5, zx6, zx7, zx8, zx9, zx10⟩ := msg_cells hWF
    obtain ⟨zf0, zf1, zf2, zf3, zf4, zf5, zf6, zf7, zf8, zf9, zf10⟩ := msg_free hWF
    clear hWF
    go_wp2_with fail
    refine bodyPost_ret (v := .tuple #[zeroV, .int .i64 6]) ?_ rfl ⟨rfl, hE.out⟩
    simp [results, Tryz.results17, go_sem, zeroV, *]
  have hne := Lib.hid (hN.out ⟨kind, from_, to_, g, node, try_, low, code, ticket, told, ops⟩ hmt ⟨hM2.out.nums.2.2.2.2.2.2.2.2, hM2.out.toldok, hM2.out.opsok⟩)
  clear hmt
  have hb := hQ4.out
  obtain ⟨y0, y1, y2, y3, y4, y5, y6, y7, y8, y9, y10⟩ := msg_cells hb
  clear hb
  go_wp2_with fail
  refine (hEnc.out _ hM4.out ((hGG.out.below hB0.out).below hB4.out)).mono ?_
  rintro e w5 ⟨A5, d5, rfl, hO5_, hB_⟩
  have hB5 := Lib.hid (bnext hB4.out hB_)
  have hR5 := Lib.hid (RB.of_own hO5_)
  have hel : Hid ((encM ⟨kind, from_, to_, g, node, try_, low, code, ticket, told, ops⟩).length ≤ 1000000) := Lib.hid (by
    unfold encM
    split
    · rename_i h9
      have := bodyM_len h9
      rw [wrapB_length]
      omega
    · simp)
  clear hB_ hO5_
  clear y0 y1 y2 y3 y4 y5 y6 y7 y8 y9 y10
  generalize encM ⟨kind, from_, to_, g, node, try_, low, code, ticket, told, ops⟩ = es at *
  go_wp2_with fail
  refine (slicesEq_any _ _ es bs _ hR5.out ((hR.out.below hB0.out).below hB5.out) hel.out (by omega)).mono ?_
  rintro e w6 ⟨rfl, hB_⟩
  rw [show decide (es = bs) = false by simpa using hne.out]
  have hB6 := Lib.hid (bnext hB5.out hB_)
  clear hB_
  have hB9 := Lib.hid (bnext hB0.out hB6.out)
  have hb := block_below hB6.out h0.out
  obtain ⟨x0, x1, x2, x3, x4, x5, x6, x7, x8, x9, x10⟩ := msg_cells hb
  obtain ⟨f0, f1, f2, f3, f4, f5, f6, f7, f8, f9, f10⟩ := msg_free hb
  obtain ⟨WSF, hch_, hs10_, hK⟩ := msg_stored hb (.int .i64 0) (.int .i64 0) (.int .i64 0) (.int .i64 0) (.int .i64 0) (.int .i64 0) (.int .i64 0) (.int .i64 0) (.int .i64 0) (.slice none 0 0) (.slice none 0 0)
  have hCH := Lib.hid hch_
  have hs10H := Lib.hid hs10_
  clear hch_ hs10_
  have hE := Lib.hid (kept_below hB9.out hK (by rintro _ rfl; exact Nat.le_refl _))
  have hb2 := Lib.hid hb
  clear hK hb
  go_wp2_with fail
  have hb := hb2.out
  clear x0 f0 x1 f1 x2 f2 x3 f3 x4 f4 x5 f5 x6 f6 x7 f7 x8 f8 x9 f9 x10 f10

  rw [hCH.out]
  have hs10 := hs10H.out
  have hWF := hs10
  clear hs10 hb
  obtain ⟨zx0, zx1, zx2, zx3, zx4, zx5, zx6, zx7, zx8, zx9, zx10⟩ := msg_cells hWF
  obtain ⟨zf0, zf1, zf2, zf3, zf4, zf5, zf6, zf7, zf8, zf9, zf10⟩ := msg_free hWF
  clear hWF
  go_wp2_with fail
  refine bodyPost_ret (v := .tuple #[zeroV, .int .i64 6]) ?_ rfl ⟨rfl, hE.out⟩
  simp [results, Tryz.results17, go_sem, zeroV, *]
end Go.Proofs.YteeiacfddjhhkaaGreatDoor
namespace Go.Proofs.YteeiacfddjhhkaaGreatDoor
open Go.RowKit
set_option maxRecDepth 100000
variable {cz : Cuts}

/-- Blocks that are no net's. -/
theorem NetAt.keptS {S : Nat → Prop} {w w' : World} {p : Nat} {most : Int} {ks : List PK} (h : NetAt cz w p most ks) (hk : Kept S w w')
    (hS : ∀ (q : Nat) (o : Obj), S q → w.heap[q]? = some o → ∃ cur T fr, o = Obj.cells cur T fr ∧ T ≠ 77 ∧ T ≠ 71 ∧ T ≠ 5) : NetAt cz w' p most ks := by
  obtain ⟨A, c, mb, mk, vs, h1, h2, h3, h4, h5, h6⟩ := h
  have hc : ∀ (q : Nat) (cur : Array Value) (T : TypeId) (fr : Nat × Nat), w.heap[q]? = some (.cells cur T fr) → (T = 77 ∨ T = 71 ∨ T = 5) → w'.heap[q]? = w.heap[q]? := fun q cur T fr hq hT => hk.block q (lt_of_block hq) (fun hs => by
    obtain ⟨cur', T', fr', e, n1, n2, n3⟩ := hS q _ hs hq
    simp only [Obj.cells.injEq] at e
    obtain ⟨_, rfl, _⟩ := e
    rcases hT with hT | hT | hT
    · exact n1 hT
    · exact n2 hT
    · exact n3 hT)
  have hm : w'.heap[mb]? = w.heap[mb]? := hk.block mb (lt_of_block h2) (fun hs => by
    obtain ⟨cur', T', fr', e, _⟩ := hS mb _ hs h2
    simp at e)
  refine ⟨A, c, mb, mk, vs, (hc p _ _ _ h1 (.inr (.inl rfl))).trans h1, hm.trans h2, h3, own_move h4 fun q hq => ?_, h5, fun i v k hv hk' => ⟨own_move (h6 i v k hv hk').1 fun q hq => ?_, (h6 i v k hv hk').2⟩⟩
  · obtain ⟨cur, e⟩ := own_type h4 hq
    exact hc q _ _ _ e (.inl rfl)
  · obtain ⟨cur, e⟩ := own_type (h6 i v k hv hk').1 hq
    exact hc q _ _ _ e (.inr (.inr rfl))
set_option maxHeartbeats 1000000 in
theorem Deliver_busy (p : Nat) (most : Int) (ks : List PK) (i : Nat) (k : PK) (w : World) (hG : GOk w) (h : NetAt cz w p most ks) (hk : ks[i]? = some k) (hw : 0 < k.waits) :
    Calls Tryz.prog 11 #[.pointer (some ⟨p, 0, none⟩), .int .i64 i] w fun e w' => e = .returned (.tuple #[zeroV, .int .i64 20]) ∧ Below w.heap.size w w' := by
  have hGG := Lib.hid hG
  have hN := Lib.hid h
  have hi : i < ks.length := (List.getElem?_eq_some_iff.1 hk).1
  have h0 := Lib.hid (heap_alloc_new w (.cells #[.int .i64 0, .int .i64 0, .int .i64 0, .int .i64 0, .int .i64 0, .int .i64 0, .int .i64 0, .int .i64 0, .int .i64 0, .slice none 0 0, .slice none 0 0] 37))
  have hB0 := Lib.hid (below_alloc (Below.refl _ w) (.cells #[.int .i64 0, .int .i64 0, .int .i64 0, .int .i64 0, .int .i64 0, .int .i64 0, .int .i64 0, .int .i64 0, .int .i64 0, .slice none 0 0, .slice none 0 0] 37))
  obtain ⟨g, c, mb, mk, vs, v, h1, h2, h3, h4, h5, h6, hv, hov⟩ := h.row hk
  have x1 := cell_below hB0.out (show w.cell? ⟨p, 1, none⟩ = some (.slice (some ⟨g, 0, none⟩) ks.length c) by rw [block_cell h1]; rfl)
  have y1 := cell_below hB0.out (show w.cell? ⟨g, i * 3 + 1, none⟩ = some (.int .i64 k.site) by rw [h4.cellAt _ (by omega)]; exact (pksC_get vs ks i _ k hv hk).2.1)
  have y2 := cell_below hB0.out (show w.cell? ⟨g, i * 3 + 2, none⟩ = some (.int .i64 k.waits) by rw [h4.cellAt _ (by omega)]; exact (pksC_get vs ks i _ k hv hk).2.2)
  have hK := Lib.hid hk
  clear h h1 h2 h3 h4 h5 h6 hv hov hG hk v
  have d1 : decide (0 < k.waits) = true := by simpa using hw
  generalize k.waits = kw at *
  go_enter Tryz.func11, Tryz.ntmps11
  go_wp2_with fail
  generalize w.alloc (.cells #[.int .i64 0, .int .i64 0, .int .i64 0, .int .i64 0, .int .i64 0, .int .i64 0, .int .i64 0, .int .i64 0, .int .i64 0, .slice none 0 0, .slice none 0 0] 37) = W0 at *
  refine (at_ok p most ks i _ (hN.out.later hB0.out) hi).mono ?_
  rintro e W0 ⟨rfl, rfl⟩
  go_wp2_with fail
  refine (new_err 20 (by decide) _).mono ?_
  rintro e w1 ⟨T, b, rfl, hE_, hB_⟩
  have hE := Lib.hid hE_
  have hB1 := Lib.hid hB_
  clear hE_ hB_
  go_wp2_with fail
  refine (at_any i _ 20 _ hE.out).mono ?_
  rintro e w2 ⟨T2, b2, rfl, hE_, hB_⟩
  have hE2 := Lib.hid hE_
  have hB2 := Lib.hid (bnext hB1.out hB_)
  clear hE_ hB_
  go_wp2_with fail
  refine (code_err _ 20 _ hE2.out ((hGG.out.below hB0.out).below hB2.out)).mono ?_
  rintro e w3 ⟨rfl, hB_⟩
  have hB := Lib.hid (bnext hB0.out (bnext hB2.out hB_))
  have hb := block_below (bnext hB2.out hB_) h0.out
  obtain ⟨x0, x1, x2, x3, x4, x5, x6, x7, x8, x9, x10⟩ := msg_cells hb
  obtain ⟨f0, f1, f2, f3, f4, f5, f6, f7, f8, f9, f10⟩ := msg_free hb
  obtain ⟨w3F, hch_, hs10_, hKp⟩ := msg_stored hb (.int .i64 0) (.int .i64 0) (.int .i64 0) (.int .i64 0) (.int .i64 0) (.int .i64 0) (.int .i64 0) (.int .i64 0) (.int .i64 0) (.slice none 0 0) (.slice none 0 0)
  have hCH := Lib.hid hch_
  have hs10H := Lib.hid hs10_
  clear hch_ hs10_
  have hEnd := Lib.hid (kept_below hB.out hKp (by rintro _ rfl; exact Nat.le_refl _))
  have hb2 := Lib.hid hb
  clear hB_ hKp hb
  go_wp2_with fail
  have hb := hb2.out
  clear x0 f0 x1 f1 x2 f2 x3 f3 x4 f4 x5 f5 x6 f6 x7 f7 x8 f8 x9 f9 x10 f10

  rw [hCH.out]
  have hs10 := hs10H.out
  have hWF := hs10
  clear hs10 hb
  obtain ⟨zx0, zx1, zx2, zx3, zx4, zx5, zx6, zx7, zx8, zx9, zx10⟩ := msg_cells hWF
  obtain ⟨zf0, zf1, zf2, zf3, zf4, zf5, zf6, zf7, zf8, zf9, zf10⟩ := msg_free hWF
  clear hWF
  go_wp2_with fail
  refine bodyPost_ret (v := .tuple #[zeroV, .int .i64 20]) ?_ rfl ⟨rfl, hEnd.out⟩
  simp [results, Tryz.results11, go_sem, zeroV, *]
set_option maxHeartbeats 1000000 in
theorem Deliver_cut (p : Nat) (most : Int) (ks : List PK) (i : Nat) (k : PK) (w : World) (hG : GOk w) (h : NetAt cz w p most ks) (hk : ks[i]? = some k) (hw : k.waits = 0) (hcz : cutAt cz k.site = true) (hsi : i64ok k.site) :
    Calls Tryz.prog 11 #[.pointer (some ⟨p, 0, none⟩), .int .i64 i] w fun e w' => e = .returned (.tuple #[zeroV, .int .i64 20]) ∧ Below w.heap.size w w' := by
  have hGG := Lib.hid hG
  have hN := Lib.hid h
  have hi : i < ks.length := (List.getElem?_eq_some_iff.1 hk).1
  have h0 := Lib.hid (heap_alloc_new w (.cells #[.int .i64 0, .int .i64 0, .int .i64 0, .int .i64 0, .int .i64 0, .int .i64 0, .int .i64 0, .int .i64 0, .int .i64 0, .slice none 0 0, .slice none 0 0] 37))
  have hB0 := Lib.hid (below_alloc (Below.refl _ w) (.cells #[.int .i64 0, .int .i64 0, .int .i64 0, .int .i64 0, .int .i64 0, .int .i64 0, .int .i64 0, .int .i64 0, .int .i64 0, .slice none 0 0, .slice none 0 0] 37))
  obtain ⟨g, c, mb, mk, vs, v, h1, h2, h3, h4, h5, h6, hv, hov⟩ := h.row hk
  have x1 := cell_below hB0.out (show w.cell? ⟨p, 1, none⟩ = some (.slice (some ⟨g, 0, none⟩) ks.length c) by rw [block_cell h1]; rfl)
  have y1 := cell_below hB0.out (show w.cell? ⟨g, i * 3 + 1, none⟩ = some (.int .i64 k.site) by rw [h4.cellAt _ (by omega)]; exact (pksC_get vs ks i _ k hv hk).2.1)
  have y2 := cell_below hB0.out (show w.cell? ⟨g, i * 3 + 2, none⟩ = some (.int .i64 k.waits) by rw [h4.cellAt _ (by omega)]; exact (pksC_get vs ks i _ k hv hk).2.2)
  have hK := Lib.hid hk
  clear h h1 h2 h3 h4 h5 h6 hv hov hG hk v
  have d1 : decide (0 < k.waits) = false := by simp [hw]
  have hPT := fun W (hW : NetAt cz W p most ks) => parted_any p most ks k.site W hW hsi
  simp only [hcz] at hPT
  have hPART := Lib.hid hPT
  clear hPT hcz hsi hw
  generalize k.waits = kw at *
  go_enter Tryz.func11, Tryz.ntmps11
  go_wp2_with fail
  generalize w.alloc (.cells #[.int .i64 0, .int .i64 0, .int .i64 0, .int .i64 0, .int .i64 0, .int .i64 0, .int .i64 0, .int .i64 0, .int .i64 0, .slice none 0 0, .slice none 0 0] 37) = W0 at *
  refine (at_ok p most ks i _ (hN.out.later hB0.out) hi).mono ?_
  rintro e W0 ⟨rfl, rfl⟩
  go_wp2_with fail
  refine (hPART.out _ (hN.out.later hB0.out)).mono ?_
  rintro e W0 ⟨rfl, rfl⟩
  go_wp2_with fail
  refine (new_err 20 (by decide) _).mono ?_
  rintro e w1 ⟨T, b, rfl, hE_, hB_⟩
  have hE := Lib.hid hE_
  have hB1 := Lib.hid hB_
  clear hE_ hB_
  go_wp2_with fail
  refine (at_any i _ 20 _ hE.out).mono ?_
  rintro e w2 ⟨T2, b2, rfl, hE_, hB_⟩
  have hE2 := Lib.hid hE_
  have hB2 := Lib.hid (bnext hB1.out hB_)
  clear hE_ hB_
  go_wp2_with fail
  refine (code_err _ 20 _ hE2.out ((hGG.out.below hB0.out).below hB2.out)).mono ?_
  rintro e w3 ⟨rfl, hB_⟩
  have hB := Lib.hid (bnext hB0.out (bnext hB2.out hB_))
  have hb := block_below (bnext hB2.out hB_) h0.out
  obtain ⟨x0, x1, x2, x3, x4, x5, x6, x7, x8, x9, x10⟩ := msg_cells hb
  obtain ⟨f0, f1, f2, f3, f4, f5, f6, f7, f8, f9, f10⟩ := msg_free hb
  obtain ⟨w3F, hch_, hs10_, hKp⟩ := msg_stored hb (.int .i64 0) (.int .i64 0) (.int .i64 0) (.int .i64 0) (.int .i64 0) (.int .i64 0) (.int .i64 0) (.int .i64 0) (.int .i64 0) (.slice none 0 0) (.slice none 0 0)
  have hCH := Lib.hid hch_
  have hs10H := Lib.hid hs10_
  clear hch_ hs10_
  have hEnd := Lib.hid (kept_below hB.out hKp (by rintro _ rfl; exact Nat.le_refl _))
  have hb2 := Lib.hid hb
  clear hB_ hKp hb
  go_wp2_with fail
  have hb := hb2.out
  clear x0 f0 x1 f1 x2 f2 x3 f3 x4 f4 x5 f5 x6 f6 x7 f7 x8 f8 x9 f9 x10 f10

  rw [hCH.out]
  have hs10 := hs10H.out
  have hWF := hs10
  clear hs10 hb
  obtain ⟨zx0, zx1, zx2, zx3, zx4, zx5, zx6, zx7, zx8, zx9, zx10⟩ := msg_cells hWF
  obtain ⟨zf0, zf1, zf2, zf3, zf4, zf5, zf6, zf7, zf8, zf9, zf10⟩ := msg_free hWF
  clear hWF
  go_wp2_with fail
  refine bodyPost_ret (v := .tuple #[zeroV, .int .i64 20]) ?_ rfl ⟨rfl, hEnd.out⟩
  simp [results, Tryz.results11, go_sem, zeroV, *]
set_option maxHeartbeats 2000000 in
theorem Deliver_bad (p : Nat) (most : Int) (ks : List PK) (i : Nat) (k : PK) (w : World) (hG : GOk w) (h : NetAt cz w p most ks) (hk : ks[i]? = some k) (hw : k.waits = 0) (hcz : cutAt cz k.site = false) (hsi : i64ok k.site) (hl : ks.length ≤ 100000) (hkl : k.b.length ≤ 100000) (hno : ∀ m : PMsg, mayM m = true → (i64ok m.ticket ∧ (∀ n ∈ m.told, i64ok n) ∧ (∀ o ∈ m.ops, o.ok)) → encM m ≠ k.b) :
    Calls Tryz.prog 11 #[.pointer (some ⟨p, 0, none⟩), .int .i64 i] w fun e w' => e = .returned (.tuple #[zeroV, .int .i64 6]) ∧ NetAt cz w' p most (ks.eraseIdx i) ∧ Kept (NS w p) w w' := by
  have hGG := Lib.hid hG
  have hN := Lib.hid h
  have hi : i < ks.length := (List.getElem?_eq_some_iff.1 hk).1
  have h0 := Lib.hid (heap_alloc_new w (.cells #[.int .i64 0, .int .i64 0, .int .i64 0, .int .i64 0, .int .i64 0, .int .i64 0, .int .i64 0, .int .i64 0, .int .i64 0, .slice none 0 0, .slice none 0 0] 37))
  have hB0 := Lib.hid (below_alloc (Below.refl _ w) (.cells #[.int .i64 0, .int .i64 0, .int .i64 0, .int .i64 0, .int .i64 0, .int .i64 0, .int .i64 0, .int .i64 0, .int .i64 0, .slice none 0 0, .slice none 0 0] 37))
  obtain ⟨g, c, mb, mk, vs, v, h1, h2, h3, h4, h5, h6, hv, hov⟩ := h.row hk
  have x1 := cell_below hB0.out (show w.cell? ⟨p, 1, none⟩ = some (.slice (some ⟨g, 0, none⟩) ks.length c) by rw [block_cell h1]; rfl)
  have y1 := cell_below hB0.out (show w.cell? ⟨g, i * 3 + 1, none⟩ = some (.int .i64 k.site) by rw [h4.cellAt _ (by omega)]; exact (pksC_get vs ks i _ k hv hk).2.1)
  have y2 := cell_below hB0.out (show w.cell? ⟨g, i * 3 + 2, none⟩ = some (.int .i64 k.waits) by rw [h4.cellAt _ (by omega)]; exact (pksC_get vs ks i _ k hv hk).2.2)
  have hK := Lib.hid hk
  clear h h1 h2 h3 h4 h5 h6 hv hov hG hk v
  have d1 : decide (0 < k.waits) = false := by simp [hw]
  have hwH := Lib.hid hw
  have hPT := fun W (hW : NetAt cz W p most ks) => parted_any p most ks k.site W hW hsi
  simp only [hcz] at hPT
  have hPART := Lib.hid hPT
  clear hw hPT hcz hsi
  go_enter Tryz.func11, Tryz.ntmps11
  go_wp2_with fail
  have hnS : ¬ NS (w.alloc (.cells #[.int .i64 0, .int .i64 0, .int .i64 0, .int .i64 0, .int .i64 0, .int .i64 0, .int .i64 0, .int .i64 0, .int .i64 0, .slice none 0 0, .slice none 0 0] 37)) p w.heap.size := by
    rintro ⟨_, cur, T, fr, hb, hT⟩
    rw [h0.out] at hb
    simp only [Option.some.injEq, Obj.cells.injEq] at hb
    obtain ⟨_, rfl, _⟩ := hb
    simp at hT
  generalize w.alloc (.cells #[.int .i64 0, .int .i64 0, .int .i64 0, .int .i64 0, .int .i64 0, .int .i64 0, .int .i64 0, .int .i64 0, .int .i64 0, .slice none 0 0, .slice none 0 0] 37) = W0 at *
  refine (at_ok p most ks i _ (hN.out.later hB0.out) hi).mono ?_
  rintro e W0 ⟨rfl, rfl⟩
  go_wp2_with fail
  refine (hPART.out _ (hN.out.later hB0.out)).mono ?_
  rintro e W0 ⟨rfl, rfl⟩
  go_wp2_with fail
  refine (gone_any p most ks i k _ (hN.out.later hB0.out) hK.out hl).mono ?_
  rintro e w1 ⟨v, rfl, hov_, hN1_, hK1_⟩
  have hN1 := Lib.hid hN1_
  have hK1 := Lib.hid hK1_
  obtain ⟨A, d, rfl⟩ := own_slice hov_
  have hov := Lib.hid hov_
  have hb1 := Lib.hid ((hK1_.block w.heap.size (lt_of_block h0.out) hnS).trans h0.out)
  have hG1 := Lib.hid ((hGG.out.below hB0.out).kept hK1_ (fun h => by have := h.1; obtain ⟨_, _, mb', _, _, _, _, h3', _⟩ := hN.out; omega))
  clear hN1_ hK1_ hov_
  have hfd : ∀ W : World, (Instr.field 77 (.agg #[.slice A k.b.length d, .int .i64 k.site, .int .i64 k.waits]) 0).run Tryz.prog W = .ok (.slice A k.b.length d) W := fun _ => by kernel_rfl
  go_wp2_with fail
  refine (dec_none _ k.b _ (RB.of_own hov.out) hkl hG1.out hno).mono ?_
  rintro e w3 ⟨rfl, hB_⟩
  have hB3 := Lib.hid hB_
  have hb := block_below hB_ hb1.out
  have hSz := Lib.hid (Nat.le_trans hB0.out.size hK1.out.size)
  clear hB_
  simp only [zeroV]
  obtain ⟨x0, x1, x2, x3, x4, x5, x6, x7, x8, x9, x10⟩ := msg_cells hb
  obtain ⟨f0, f1, f2, f3, f4, f5, f6, f7, f8, f9, f10⟩ := msg_free hb
  obtain ⟨w3F, hch_, hs10_, hKp_⟩ := msg_stored hb (.int .i64 0) (.int .i64 0) (.int .i64 0) (.int .i64 0) (.int .i64 0) (.int .i64 0) (.int .i64 0) (.int .i64 0) (.int .i64 0) (.slice none 0 0) (.slice none 0 0)
  have hCH := Lib.hid hch_
  have hs10H := Lib.hid hs10_
  clear hch_ hs10_
  have hKp := Lib.hid hKp_
  have hb2 := Lib.hid hb
  clear hKp_ hb
  go_wp2_with fail
  have hb := hb2.out
  clear x0 f0 x1 f1 x2 f2 x3 f3 x4 f4 x5 f5 x6 f6 x7 f7 x8 f8 x9 f9 x10 f10

  rw [hCH.out]
  have hs10 := hs10H.out
  have hWF := hs10
  clear hs10 hb
  obtain ⟨zx0, zx1, zx2, zx3, zx4, zx5, zx6, zx7, zx8, zx9, zx10⟩ := msg_cells hWF
  obtain ⟨zf0, zf1, zf2, zf3, zf4, zf5, zf6, zf7, zf8, zf9, zf10⟩ := msg_free hWF
  clear hWF
  go_wp2_with fail
  refine bodyPost_ret (v := .tuple #[zeroV, .int .i64 6]) ?_ rfl ⟨rfl, (hN1.out.later hB3.out).keptS hKp.out ?_, ?_⟩
  · simp [results, Tryz.results11, go_sem, zeroV, *]
  · rintro q o rfl ho
    rw [hb2.out] at ho
    cases ho
    exact ⟨_, _, _, rfl, by decide, by decide, by decide⟩
  · exact (KeptN_trans (KeptN_trans (Kept.of_below _ hB0.out) hK1.out) (Kept.of_below _ hB3.out)).trans hKp.out (by rintro q hq rfl; omega)
set_option maxHeartbeats 2000000 in
theorem Deliver_good (p : Nat) (most : Int) (ks : List PK) (i : Nat) (k : PK) (m : PMsg) (w : World) (hG : GOk w) (h : NetAt cz w p most ks) (hk : ks[i]? = some k) (hw : k.waits = 0) (hcz : cutAt cz k.site = false) (hsi : i64ok k.site) (hl : ks.length ≤ 100000) (hkb : k.b = encM m) (hm : mayM m = true) (hok : i64ok m.ticket ∧ (∀ n ∈ m.told, i64ok n) ∧ (∀ o ∈ m.ops, o.ok)) :
    Calls Tryz.prog 11 #[.pointer (some ⟨p, 0, none⟩), .int .i64 i] w fun e w' => ∃ A c B d, e = .returned (.tuple #[.agg (msgA m A c B d), .int .i64 0]) ∧ MsgR w' m A c B d ∧ FreshM w A B ∧ NetAt cz w' p most (ks.eraseIdx i) ∧ Kept (NS w p) w w' := by
  have hKB := Lib.hid hkb
  have hMM := Lib.hid hm
  have hOK := Lib.hid hok
  clear hkb hm hok
  have hGG := Lib.hid hG
  have hN := Lib.hid h
  have hi : i < ks.length := (List.getElem?_eq_some_iff.1 hk).1
  have h0 := Lib.hid (heap_alloc_new w (.cells #[.int .i64 0, .int .i64 0, .int .i64 0, .int .i64 0, .int .i64 0, .int .i64 0, .int .i64 0, .int .i64 0, .int .i64 0, .slice none 0 0, .slice none 0 0] 37))
  have hB0 := Lib.hid (below_alloc (Below.refl _ w) (.cells #[.int .i64 0, .int .i64 0, .int .i64 0, .int .i64 0, .int .i64 0, .int .i64 0, .int .i64 0, .int .i64 0, .int .i64 0, .slice none 0 0, .slice none 0 0] 37))
  obtain ⟨g, c, mb, mk, vs, v, h1, h2, h3, h4, h5, h6, hv, hov⟩ := h.row hk
  have x1 := cell_below hB0.out (show w.cell? ⟨p, 1, none⟩ = some (.slice (some ⟨g, 0, none⟩) ks.length c) by rw [block_cell h1]; rfl)
  have y1 := cell_below hB0.out (show w.cell? ⟨g, i * 3 + 1, none⟩ = some (.int .i64 k.site) by rw [h4.cellAt _ (by omega)]; exact (pksC_get vs ks i _ k hv hk).2.1)
  have y2 := cell_below hB0.out (show w.cell? ⟨g, i * 3 + 2, none⟩ = some (.int .i64 k.waits) by rw [h4.cellAt _ (by omega)]; exact (pksC_get vs ks i _ k hv hk).2.2)
  have hK := Lib.hid hk
  clear h h1 h2 h3 h4 h5 h6 hv hov hG hk v
  have d1 : decide (0 < k.waits) = false := by simp [hw]
  have hwH := Lib.hid hw
  have hPT := fun W (hW : NetAt cz W p most ks) => parted_any p most ks k.site W hW hsi
  simp only [hcz] at hPT
  have hPART := Lib.hid hPT
  clear hw hPT hcz hsi
  go_enter Tryz.func11, Tryz.ntmps11
  go_wp2_with fail
  have hnS : ¬ NS (w.alloc (.cells #[.int .i64 0, .int .i64 0, .int .i64 0, .int .i64 0, .int .i64 0, .int .i64 0, .int .i64 0, .int .i64 0, .int .i64 0, .slice none 0 0, .slice none 0 0] 37)) p w.heap.size := by
    rintro ⟨_, cur, T, fr, hb, hT⟩
    rw [h0.out] at hb
    simp only [Option.some.injEq, Obj.cells.injEq] at hb
    obtain ⟨_, rfl, _⟩ := hb
    simp at hT
  generalize w.alloc (.cells #[.int .i64 0, .int .i64 0, .int .i64 0, .int .i64 0, .int .i64 0, .int .i64 0, .int .i64 0, .int .i64 0, .int .i64 0, .slice none 0 0, .slice none 0 0] 37) = W0 at *
  refine (at_ok p most ks i _ (hN.out.later hB0.out) hi).mono ?_
  rintro e W0 ⟨rfl, rfl⟩
  go_wp2_with fail
  refine (hPART.out _ (hN.out.later hB0.out)).mono ?_
  rintro e W0 ⟨rfl, rfl⟩
  go_wp2_with fail
  refine (gone_any p most ks i k _ (hN.out.later hB0.out) hK.out hl).mono ?_
  rintro e w1 ⟨v, rfl, hov_, hN1_, hK1_⟩
  have hN1 := Lib.hid hN1_
  have hK1 := Lib.hid hK1_
  obtain ⟨A, d, rfl⟩ := own_slice hov_
  have hov := Lib.hid hov_
  have hb1 := Lib.hid ((hK1_.block w.heap.size (lt_of_block h0.out) hnS).trans h0.out)
  have hG1 := Lib.hid ((hGG.out.below hB0.out).kept hK1_ (fun h => by have := h.1; obtain ⟨_, _, mb', _, _, _, _, h3', _⟩ := hN.out; omega))
  clear hN1_ hK1_ hov_
  have hfd : ∀ W : World, (Instr.field 77 (.agg #[.slice A k.b.length d, .int .i64 k.site, .int .i64 k.waits]) 0).run Tryz.prog W = .ok (.slice A k.b.length d) W := fun _ => by kernel_rfl
  go_wp2_with fail
  refine (dec_good m _ _ hMM.out (by rw [← hKB.out]; exact RB.of_own hov.out) hG1.out hOK.out).mono ?_
  rintro e w3 ⟨A9, c9, B9, d9, rfl, hM_, hFr_, hB_⟩
  have hM := Lib.hid hM_
  have hFr := Lib.hid hFr_
  have hB3 := Lib.hid hB_
  have hb := block_below hB_ hb1.out
  have hSz := Lib.hid (Nat.le_trans hB0.out.size hK1.out.size)
  have hlt1 := lt_of_block hb1.out
  clear hB_ hFr_ hM_
  obtain ⟨kind, from_, to_, gg, node, try_, low, code, ticket, told, ops⟩ := m
  simp only [msgA]
  obtain ⟨x0, x1, x2, x3, x4, x5, x6, x7, x8, x9, x10⟩ := msg_cells hb
  obtain ⟨f0, f1, f2, f3, f4, f5, f6, f7, f8, f9, f10⟩ := msg_free hb
  obtain ⟨w3F, hch_, hs10_, hKp_⟩ := msg_stored hb (.int .i64 kind) (.int .i64 from_) (.int .i64 to_) (.int .i64 gg) (.int .i64 node) (.int .i64 try_) (.int .i64 low) (.int .i64 code) (.int .i64 ticket) (.slice A9 told.length c9) (.slice B9 ops.length d9)
  have hCH := Lib.hid hch_
  have hs10H := Lib.hid hs10_
  clear hch_ hs10_
  have hKp := Lib.hid hKp_
  have hb2 := Lib.hid hb
  clear hKp_ hb
  go_wp2_with fail
  have hb := hb2.out
  clear x0 f0 x1 f1 x2 f2 x3 f3 x4 f4 x5 f5 x6 f6 x7 f7 x8 f8 x9 f9 x10 f10

  rw [hCH.out]
  have hs10 := hs10H.out
  have hWF := hs10
  clear hs10 hb
  obtain ⟨zx0, zx1, zx2, zx3, zx4, zx5, zx6, zx7, zx8, zx9, zx10⟩ := msg_cells hWF
  obtain ⟨zf0, zf1, zf2, zf3, zf4, zf5, zf6, zf7, zf8, zf9, zf10⟩ := msg_free hWF
  clear hWF
  go_wp2_with fail
  refine bodyPost_ret (v := .tuple #[.agg #[.int .i64 kind, .int .i64 from_, .int .i64 to_, .int .i64 gg, .int .i64 node, .int .i64 try_, .int .i64 low, .int .i64 code, .int .i64 ticket, .slice A9 told.length c9, .slice B9 ops.length d9], .int .i64 0]) ?_ rfl ⟨A9, c9, B9, d9, rfl, ?_, ?_, (hN1.out.later hB3.out).keptS hKp.out ?_, ?_⟩
  · simp [results, Tryz.results11, go_sem, *]
  · have hM3 := hM.out
    exact ⟨hM3.told.kept hKp.out (fun ad hA e => by have := hFr.out.1 ad hA; have e' : ad.block = w.heap.size := e; omega), hM3.ops.kept hKp.out (fun ad hA e => by have := hFr.out.2 ad hA; have e' : ad.block = w.heap.size := e; omega), hM3.toldle, hM3.opsle, hM3.keys, hM3.toldok, hM3.opsok, hM3.nums⟩
  · exact ⟨fun ad hA => by have := hFr.out.1 ad hA; omega, fun ad hA => by have := hFr.out.2 ad hA; omega⟩
  · rintro q o rfl ho
    rw [hb2.out] at ho
    cases ho
    exact ⟨_, _, _, rfl, by decide, by decide, by decide⟩
  · exact (KeptN_trans (KeptN_trans (Kept.of_below _ hB0.out) hK1.out) (Kept.of_below _ hB3.out)).trans hKp.out (by rintro q hq rfl; omega)
end Go.Proofs.YteeiacfddjhhkaaGreatDoor
