/- mess.Decode: a message out of its bytes; of bytes that are no frame there is none. -/
import Derived.Test.YteeiacfddjhhkaaGreatDoorOne
import Derived.Test.YteeiacfddjhhkaaGreatDoorRd4
namespace Go.Proofs.YteeiacfddjhhkaaGreatDoor
open Go.RowKit
set_option maxRecDepth 100000

def zeroV : Value := .agg #[.int .i64 0, .int .i64 0, .int .i64 0, .int .i64 0, .int .i64 0, .int .i64 0, .int .i64 0, .int .i64 0, .int .i64 0, .slice none 0 0, .slice none 0 0]
set_option maxHeartbeats 1000000 in
theorem dec_bad (v : Value) (bs : List UInt8) (w : World) (h : RB w v bs) (hl : bs.length ≤ 100000) (hno : ∀ p, p.length ≤ 16384 → bs ≠ wrapB p) :
    Calls Tryz.prog 17 #[v] w fun e w' => e = .returned (.tuple #[zeroV, .int .i64 6]) ∧ Below w.heap.size w w' := by
  obtain ⟨A, c, hv, _⟩ := id h
  have hR := Lib.hid h
  have hN := Lib.hid hno
  clear h hno
  subst hv
  have h0 := Lib.hid (heap_alloc_new w (.cells #[.int .i64 0, .int .i64 0, .int .i64 0, .int .i64 0, .int .i64 0, .int .i64 0, .int .i64 0, .int .i64 0, .int .i64 0, .slice none 0 0, .slice none 0 0] 37))
  have hB0 := Lib.hid (below_alloc (Below.refl _ w) (.cells #[.int .i64 0, .int .i64 0, .int .i64 0, .int .i64 0, .int .i64 0, .int .i64 0, .int .i64 0, .int .i64 0, .int .i64 0, .slice none 0 0, .slice none 0 0] 37))
  go_enter Tryz.func17, Tryz.ntmps17
  go_wp2_with fail
  generalize w.alloc (.cells #[.int .i64 0, .int .i64 0, .int .i64 0, .int .i64 0, .int .i64 0, .int .i64 0, .int .i64 0, .int .i64 0, .int .i64 0, .slice none 0 0, .slice none 0 0] 37) = W0 at *
  refine (one_any _ bs _ (hR.out.below hB0.out) hl).mono ?_
  rintro e w1 (⟨p, A1, c1, hp, hbs, _⟩ | ⟨_, rfl, hB_⟩)
  · exact absurd hbs (hN.out p hp)
  have hB := Lib.hid (bnext hB0.out hB_)
  have hb := block_below hB_ h0.out
  obtain ⟨x0, x1, x2, x3, x4, x5, x6, x7, x8, x9, x10⟩ := msg_cells hb
  obtain ⟨f0, f1, f2, f3, f4, f5, f6, f7, f8, f9, f10⟩ := msg_free hb
  obtain ⟨w1F, hch_, hs10_, hK⟩ := msg_stored hb (.int .i64 0) (.int .i64 0) (.int .i64 0) (.int .i64 0) (.int .i64 0) (.int .i64 0) (.int .i64 0) (.int .i64 0) (.int .i64 0) (.slice none 0 0) (.slice none 0 0)
  have hCH := Lib.hid hch_
  have hs10H := Lib.hid hs10_
  clear hch_ hs10_
  have hE := Lib.hid (kept_below hB.out hK (by rintro _ rfl; exact Nat.le_refl _))
  have hb2 := Lib.hid hb
  clear hB_ hK hb
  go_wp2_with fail
  have hb := hb2.out
  clear x0 f0 x1 f1 x2 f2 x3 f3 x4 f4 x5 f5 x6 f6 x7 f7 x8 f8 x9 f9 x10 f10

  rw [hCH.out]
  have hs10 := hs10H.out
  have hWF := hs10
  clear hs10 hb
  obtain ⟨zx0, zx1, zx2, zx3, zx4, zx5, zx6, zx7, zx8, zx9, zx10⟩ := msg_cells hWF
  obtain ⟨zf0, zf1, zf2, zf3, zf4, zf5, zf6, zf7, zf8, zf9, zf10⟩ := msg_free hWF
  clear hWF
  go_wp2_with fail
  refine bodyPost_ret (v := .tuple #[zeroV, .int .i64 6]) ?_ rfl ⟨rfl, hE.out⟩
  simp [results, Tryz.results17, go_sem, zeroV, *]

theorem wrapB_inj {p q : List UInt8} (hp : p.length ≤ 16384) (hq : q.length ≤ 16384) (h : wrapB p = wrapB q) : p = q := by
  have hl := frame_same (bs := wrapB p) (p := p) (p' := q) (rest := []) (rest' := []) ⟨hp, by simp⟩ ⟨hq, by simp [h]⟩
  unfold wrapB at h
  rw [hl] at h
  have h1 := (List.append_inj h (by simp [hl])).1
  exact (List.append_inj h1 rfl).2
set_option maxHeartbeats 2000000 in
theorem dec_good (m : PMsg) (v : Value) (w : World) (hm : mayM m = true) (h : RB w v (encM m)) (hG : GOk w) (hok : i64ok m.ticket ∧ (∀ n ∈ m.told, i64ok n) ∧ (∀ o ∈ m.ops, o.ok)) :
    Calls Tryz.prog 17 #[v] w fun e w' => ∃ A c B d, e = .returned (.tuple #[.agg (msgA m A c B d), .int .i64 0]) ∧ MsgR w' m A c B d ∧ FreshM w A B ∧ Below w.heap.size w w' := by
  have hE : encM m = wrapB (bodyM m) := by unfold encM; rw [hm]; rfl
  have hbl := bodyM_len hm
  have hf := mayM_facts hm
  have hck := checkO_len hf.ops
  have hl0 : m.ops.length ≤ 1000000 := by omega
  have hl1 : m.told.length ≤ 1000000 := by have := hf.told; omega
  have hk0 : ∀ o ∈ m.ops, o.key.size ≤ 1000000 := fun o ho => by have := key_le (hck.2 o ho).2; omega
  obtain ⟨bs, hbs⟩ : ∃ l, encM m = l := ⟨_, rfl⟩
  rw [hbs] at h hE
  have hll : bs.length ≤ 100000 := by rw [hE, wrapB_length]; omega
  have hRead := Lib.hid (fun v w hr => read_any m v w hm hr hok)
  have hMay := Lib.hid (fun A c B d W hr hG => may_any m A c B d W hr hl0 hl1 hk0 hG)
  have hEnc := Lib.hid (fun A c B d W hr hG => enc_any m A c B d W hr hG hl0 hl1 hk0)
  have hBS := Lib.hid hbs
  have hEE := Lib.hid hE
  have hBL := Lib.hid hbl
  have hMT := Lib.hid hm
  have hGG := Lib.hid hG
  obtain ⟨A, c, hv, _⟩ := id h
  have hR := Lib.hid h
  clear h hbs hE hbl hf hck hl0 hl1 hk0 hm hG
  subst hv
  obtain ⟨kind, from_, to_, g, node, try_, low, code, ticket, told, ops⟩ := m
  have h0 := Lib.hid (heap_alloc_new w (.cells #[.int .i64 0, .int .i64 0, .int .i64 0, .int .i64 0, .int .i64 0, .int .i64 0, .int .i64 0, .int .i64 0, .int .i64 0, .slice none 0 0, .slice none 0 0] 37))
  have hB0 := Lib.hid (below_alloc (Below.refl _ w) (.cells #[.int .i64 0, .int .i64 0, .int .i64 0, .int .i64 0, .int .i64 0, .int .i64 0, .int .i64 0, .int .i64 0, .int .i64 0, .slice none 0 0, .slice none 0 0] 37))
  go_enter Tryz.func17, Tryz.ntmps17
  go_wp2_with fail
  generalize w.alloc (.cells #[.int .i64 0, .int .i64 0, .int .i64 0, .int .i64 0, .int .i64 0, .int .i64 0, .int .i64 0, .int .i64 0, .int .i64 0, .slice none 0 0, .slice none 0 0] 37) = W0 at *
  refine (one_any _ bs _ (hR.out.below hB0.out) hll).mono ?_
  rintro e w1 (⟨p, A1, c1, hp, hbs, rfl, hO_, hB_⟩ | ⟨hno, _⟩)
  case inr => exact absurd hEE.out (hno _ (by have := hBL.out; omega))
  obtain rfl : p = bodyM ⟨kind, from_, to_, g, node, try_, low, code, ticket, told, ops⟩ := wrapB_inj hp (by have := hBL.out; omega) (hbs.symm.trans hEE.out)
  have hO1 := Lib.hid (RB.of_own hO_)
  have hB1 := Lib.hid hB_
  clear hO_ hB_ hbs
  go_wp2_with fail
  refine (hRead.out _ _ hO1.out).mono ?_
  rintro e w2 ⟨A9, c9, B9, d9, rfl, hM_, hFr_, hB_⟩
  have hFr := Lib.hid hFr_
  have hM2 := Lib.hid hM_
  have hB2 := Lib.hid (bnext hB1.out hB_)
  have h1s := Lib.hid hB1.out.size
  clear hM_ hFr_ hB_ hO1
  obtain ⟨q, hq⟩ : ∃ q, w2.heap.size = q := ⟨_, rfl⟩
  have hQ := Lib.hid hq
  have hQ3 := Lib.hid (heap_alloc_new w2 (.cells #[.int .i64 kind, .int .i64 from_, .int .i64 to_, .int .i64 g, .int .i64 node, .int .i64 try_, .int .i64 low, .int .i64 code, .int .i64 ticket, .slice A9 told.length c9, .slice B9 ops.length d9] 37))
  have hB3 := Lib.hid (below_alloc hB2.out (.cells #[.int .i64 kind, .int .i64 from_, .int .i64 to_, .int .i64 g, .int .i64 node, .int .i64 try_, .int .i64 low, .int .i64 code, .int .i64 ticket, .slice A9 told.length c9, .slice B9 ops.length d9] 37))
  have hA3 := Lib.hid (below_alloc (Below.refl _ w2) (.cells #[.int .i64 kind, .int .i64 from_, .int .i64 to_, .int .i64 g, .int .i64 node, .int .i64 try_, .int .i64 low, .int .i64 code, .int .i64 ticket, .slice A9 told.length c9, .slice B9 ops.length d9] 37))
  rw [hq] at hQ3
  simp only [msgA]
  go_wp2_with fail
  have hsz : w2.heap.size < (w2.alloc (.cells #[.int .i64 kind, .int .i64 from_, .int .i64 to_, .int .i64 g, .int .i64 node, .int .i64 try_, .int .i64 low, .int .i64 code, .int .i64 ticket, .slice A9 told.length c9, .slice B9 ops.length d9] 37)).heap.size := by rw [World.size_alloc]; omega
  rw [hq] at hsz
  generalize w2.alloc (.cells #[.int .i64 kind, .int .i64 from_, .int .i64 to_, .int .i64 g, .int .i64 node, .int .i64 try_, .int .i64 low, .int .i64 code, .int .i64 ticket, .slice A9 told.length c9, .slice B9 ops.length d9] 37) = W3 at *
  have hM3 := Lib.hid (hM2.out.below hA3.out)
  have hG3 := Lib.hid ((hGG.out.below hB0.out).below hB3.out)
  refine (hMay.out A9 c9 B9 d9 _ hM3.out.ops hG3.out).mono ?_
  rintro e w4 ⟨rfl, hB_⟩
  rw [hMT.out]
  have hB4 := Lib.hid (bnext hB3.out hB_)
  have hM4 := Lib.hid (hM3.out.below hB_)
  have hQ4 := Lib.hid (block_below hB_ hQ3.out)
  clear hB_ hA3
  have hb := hQ4.out
  obtain ⟨y0, y1, y2, y3, y4, y5, y6, y7, y8, y9, y10⟩ := msg_cells hb
  clear hb
  go_wp2_with fail
  refine (hEnc.out A9 c9 B9 d9 _ hM4.out ((hGG.out.below hB0.out).below hB4.out)).mono ?_
  rintro e w5 ⟨A5, d5, rfl, hO5_, hB_⟩
  rw [hBS.out] at hO5_ ⊢
  have hB5 := Lib.hid (bnext hB4.out hB_)
  have hM5 := Lib.hid (hM4.out.below hB_)
  have hQ5 := Lib.hid (block_below hB_ hQ4.out)
  have hR5 := Lib.hid (RB.of_own hO5_)
  clear hB_ hO5_
  clear y0 y1 y2 y3 y4 y5 y6 y7 y8 y9 y10
  go_wp2_with fail
  refine (slicesEq_any _ _ bs bs _ hR5.out ((hR.out.below hB0.out).below hB5.out) (by omega) (by omega)).mono ?_
  rintro e w6 ⟨rfl, hB_⟩
  rw [show decide (bs = bs) = true by simp]
  have hB6 := Lib.hid (bnext hB5.out hB_)
  have hM6 := Lib.hid (hM5.out.below hB_)
  have hQ6 := Lib.hid (block_below hB_ hQ5.out)
  have hr6 := Lib.hid (block_below hB6.out h0.out)
  clear hB_
  have hb := hQ6.out
  obtain ⟨y0, y1, y2, y3, y4, y5, y6, y7, y8, y9, y10⟩ := msg_cells hb
  have hb := hr6.out
  obtain ⟨x0, x1, x2, x3, x4, x5, x6, x7, x8, x9, x10⟩ := msg_cells hb
  obtain ⟨f0, f1, f2, f3, f4, f5, f6, f7, f8, f9, f10⟩ := msg_free hb
  have hW6 : Below w.heap.size w w6 := bnext hB0.out hB6.out
  obtain ⟨w6F, hch_, hs10_, hK⟩ := msg_stored hb (.int .i64 kind) (.int .i64 from_) (.int .i64 to_) (.int .i64 g) (.int .i64 node) (.int .i64 try_) (.int .i64 low) (.int .i64 code) (.int .i64 ticket) (.slice A9 told.length c9) (.slice B9 ops.length d9)
  have hCH := Lib.hid hch_
  have hs10H := Lib.hid hs10_
  clear hch_ hs10_
  have hr0 : w.heap.size < W0.heap.size := lt_of_block h0.out
  have hE := Lib.hid (kept_below hW6 hK (by rintro _ rfl; exact Nat.le_refl _))
  have hMF := Lib.hid (MsgR.kept hM6.out hK (fun ad ha => by have := hFr.out.1 ad ha; have := h1s.out; omega) (fun ad ha => by have := hFr.out.2 ad ha; have := h1s.out; omega))
  clear hb hW6 hK
  go_wp2_with fail
  have hb := hr6.out
  rw [hCH.out]
  have hs10 := hs10H.out
  have hWF := hs10
  clear hs10 hb
  obtain ⟨zx0, zx1, zx2, zx3, zx4, zx5, zx6, zx7, zx8, zx9, zx10⟩ := msg_cells hWF
  obtain ⟨zf0, zf1, zf2, zf3, zf4, zf5, zf6, zf7, zf8, zf9, zf10⟩ := msg_free hWF
  clear hWF
  go_wp2_with fail
  refine bodyPost_ret (v := .tuple #[.agg (msgA ⟨kind, from_, to_, g, node, try_, low, code, ticket, told, ops⟩ A9 c9 B9 d9), .int .i64 0]) ?_ rfl ⟨A9, c9, B9, d9, rfl, hMF.out, ⟨fun ad ha => by have := hFr.out.1 ad ha; have := h1s.out; omega, fun ad ha => by have := hFr.out.2 ad ha; have := h1s.out; omega⟩, hE.out⟩
  simp [results, Tryz.results17, go_sem, msgA, *]

end Go.Proofs.YteeiacfddjhhkaaGreatDoor
