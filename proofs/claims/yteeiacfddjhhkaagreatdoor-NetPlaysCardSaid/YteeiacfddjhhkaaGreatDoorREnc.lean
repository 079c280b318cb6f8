/- The document's sum and frame: the same plain words as the program's. The document's Encode of messages is the plain word encM. -/
import Derived.Test.YteeiacfddjhhkaaGreatDoorROps2
import Derived.Test.YteeiacfddjhhkaaGreatDoorOne
import Derived.Test.YteeiacfddjhhkaaGreatDoorRMay
import Derived.Test.YteeiacfddjhhkaaGreatDoorEnc
namespace Go.Proofs.YteeiacfddjhhkaaGreatDoor
open Go.RowKit
set_option maxRecDepth 100000

theorem rsum_any (v : Value) (bs : List UInt8) (w : World) (h : RB w v bs) (hl : bs.length ≤ 1000000) :
    Calls Tryz.prog 135 #[v] w fun e w' => e = .returned (.int .u32 (crcSum bs : Nat)) ∧ w' = w := by
  obtain ⟨A, c, rfl, hn, hc, hm, hr⟩ := id h
  have hR := Lib.hid h
  clear h hr hn
  go_enter Tryz.func135, Tryz.ntmps135
  go_wp2_with fail
  go_loop [3, 4, 5, 6] (fun s i _ _ => ∃ k t : Nat, k ≤ 8 * bs.length ∧ i = .int .i64 k ∧ s = .int .u32 t ∧ t < 4294967296 ∧ Hid (t = refAt bs k)) (fun _ i _ _ => 8 * bs.length - (intOf i).toNat)
  case atStart => exact ⟨0, 4294967295, by omega, rfl, rfl, by omega, (refAt_zero bs).symm⟩
  case round =>
    obtain ⟨k, t, hk, rfl, rfl, hlt, ht⟩ := hrel
    have w1 : IntKind.i64.wrap (8 * (bs.length : Int)) = 8 * (bs.length : Int) := by rw [IntKind.wrap_i64]; omega
    by_cases hkl : k < 8 * bs.length
    · have d1 : decide ((k : Int) < 8 * (bs.length : Int)) = true := by simp; omega
      have hq : k / 8 < bs.length := by omega
      obtain ⟨ad, rfl, hcell⟩ := hR.out.at_ hq
      have hC : Hid (refC bs k = (bs[k / 8]).toNat) := Lib.hid (by unfold refC; rw [List.getElem?_eq_getElem hq]; rfl)
      generalize bs[k / 8] = x at *
      have hx := x.toNat_lt
      have e0 : ((k / 8 : Nat) : Int) = (k : Int) / 8 := by omega
      have e1 : IntKind.i64.wrap ((k : Int) / 8) = (k : Int) / 8 := by rw [IntKind.wrap_i64]; omega
      have e2 : ((k : Int) / 8).toNat = k / 8 := by omega
      obtain ⟨d, hd⟩ : ∃ d, x.toNat / 2 ^ (k % 8) = d := ⟨_, rfl⟩
      have hd256 : d < 256 := by rw [← hd]; exact Nat.lt_of_le_of_lt (Nat.div_le_self _ _) hx
      have hde : (x.toNat : Int) / 2 ^ (k % 8) = (d : Int) := by rw [← hd]; push_cast; rfl
      have hxr : bits .xor .u32 ((t : Int) / 2) (2197175160 : Int) = (((t / 2) ^^^ 2197175160 : Nat) : Int) := by
        rw [show (t : Int) / 2 = ((t / 2 : Nat) : Int) by omega]
        exact u32_xor_nat (t / 2) 2197175160 (by omega) (by omega)
      have hS : Hid (refAt bs (k + 1) = refBit t (d % 2)) := Lib.hid (by rw [refAt_succ bs k hkl, ← ht.out, hC.out, hd])
      have hLt := Lib.hid (refAt_lt bs (k + 1))
      rw [← e0] at *
      have hD := Lib.hid hd
      clear hd
      by_cases hbit : d % 2 = t % 2
      · have d2 : ((x.toNat : Int) / 2 ^ (k % 8) % 2 != (t : Int) % 2) = false := by rw [hde]; simp; omega
        have hB : Hid (refBit t (d % 2) = t / 2) := Lib.hid (by unfold refBit; rw [if_pos hbit])
        clear hbit hde
        go_wp2_with fail
        go_round
        case rel => exact ⟨k + 1, t / 2, by omega, by go_num, by go_num, by omega, (show t / 2 = refAt bs (k + 1) by rw [hS.out, hB.out])⟩
        case measure => simp [intOf]; omega
      · have d2 : ((x.toNat : Int) / 2 ^ (k % 8) % 2 != (t : Int) % 2) = true := by rw [hde]; simp; omega
        have hB : Hid (refBit t (d % 2) = (t / 2) ^^^ 2197175160) := Lib.hid (by unfold refBit; rw [if_neg hbit])
        clear hbit hde
        go_wp2_with fail
        go_round
        case rel => exact ⟨k + 1, (t / 2) ^^^ 2197175160, by omega, by go_num, rfl, by rw [← hB.out, ← hS.out]; exact hLt.out, (show (t / 2) ^^^ 2197175160 = refAt bs (k + 1) by rw [hS.out, hB.out])⟩
        case measure => simp [intOf]; omega
    · have hk8 : k = 8 * bs.length := by omega
      have d1 : decide ((k : Int) < 8 * (bs.length : Int)) = false := by simp; omega
      have hE : Hid (4294967295 - t = crcSum bs) := Lib.hid (by rw [ht.out, hk8, refAt_end])
      have w2 : IntKind.u32.wrap (4294967295 - (t : Int)) = 4294967295 - (t : Int) := by rw [IntKind.wrap_u32]; omega
      go_wp2_with fail
      go_ret
      exact ⟨ret_int (by rw [← hE.out]; omega), rfl⟩
theorem rwrap_one (v : Value) (p : List UInt8) (w : World) (h : RB w v p) (hp : p.length ≤ 16384) :
    Calls Tryz.prog 108 #[v] w (RetB w (wrapB p)) := by
  obtain ⟨A, c, rfl, hn, hc, hm, hr⟩ := id h
  have hR := Lib.hid h
  clear h hr hn
  obtain ⟨m, hm2⟩ : ∃ m : Nat, m = p.length := ⟨_, rfl⟩
  have hM := Lib.hid hm2
  rw [← hm2] at hp hR ⊢
  have d1 : decide ((16384 : Int) < m) = false := by simp; omega
  obtain ⟨l, hl⟩ : ∃ l, headB m ++ p = l := ⟨_, rfl⟩
  have hll : l.length = m + 3 := by rw [← hl]; simp [headB, hm2]
  have hL := Lib.hid hl
  have hLL := Lib.hid hll
  have hB1 := Lib.hid (below_alloc (Below.refl _ w) (.cells #[.int .u8 167, .int .u8 ((m : Int) / 256), .int .u8 ((m : Int) % 256)] 5))
  have hs := crcSum_lt l
  clear hm2 hl hll
  have hS9 := fun (W : World) (A : Option Addr) (c : Nat) (h : RB W (.slice A l.length c) l) => rsum_any (.slice A l.length c) l W h (by have := hLL.out; omega)
  generalize hcs : crcSum l = s at *
  have hCS := Lib.hid hcs
  have hS := Lib.hid hS9
  clear hS9 hcs
  go_enter Tryz.func108, Tryz.ntmps108
  go_wp2_with (at_builtin; refine list_of_wp rfl ?_; refine wp_append_B (.tmp 17) (.tmp 18) rfl w.heap.size (.slice (some ⟨w.heap.size, 0, none⟩) 3 3) (.slice A m c) (headB m) p _ hL.out rfl ?c1 rfl ?c2 ?c3 ?c4 ?_)
  case c1 =>
    refine OB.lit rfl ?_ rfl (Nat.le_refl _) (by simp [headB, maxLen])
    simp only [headB, u8s, List.map_cons, List.map_nil]
    rw [u8cell ((m : Int) / 256) (m / 256) (by omega), u8cell ((m : Int) % 256) m rfl]
    rfl
  case c2 => exact hR.out.below hB1.out
  case c3 => have := hM.out; simp [headB]; omega
  case c4 => exact hB1.out.size
  intro v1 w1 hO1_ hg1_ _
  obtain ⟨A1, c1, rfl⟩ := own_slice hO1_
  have hO1 := Lib.hid hO1_
  have hB2 := Lib.hid (hB1.out.grown hg1_ hB1.out.size (by intro j hj; simp [Value.ownBlock] at hj; omega))
  clear hO1_ hg1_
  go_wp2_with fail
  refine (hS.out _ _ _ (RB.of_own hO1.out)).mono ?_
  rintro e w1 ⟨rfl, rfl⟩
  go_wp2_with (at_builtin; refine list_of_wp rfl ?_; refine wp_append_B (.tmp 22) (.tmp 34) rfl w.heap.size (.slice A1 l.length c1) (.slice (some ⟨w1.heap.size, 0, none⟩) 4 4) l (tailB s) (l ++ tailB s) rfl rfl ?c1 rfl ?c2 ?c3 ?c4 ?_)
  case c1 => exact OB.below hO1.out (below_alloc (Below.refl _ _) _)
  case c2 =>
    refine RB.made rfl ?_ rfl (by simp [tailB, maxLen])
    simp only [tailB, u8s, List.map_cons, List.map_nil]
    rw [u8cell ((s : Int) / 16777216) (s / 16777216) (by omega), u8cell ((s : Int) / 65536 % 256) (s / 65536) (by omega), u8cell ((s : Int) / 256 % 256) (s / 256) (by omega), u8cell ((s : Int) % 256) s rfl]
  case c3 => have := hLL.out; simp [tailB]; omega
  case c4 => have := hB2.out.size; simp; omega
  intro v4 w4 hO4_ hg4_ _
  have hBx := below_alloc hB2.out (.cells #[.int .u8 ((s : Int) / 16777216), .int .u8 ((s : Int) / 65536 % 256), .int .u8 ((s : Int) / 256 % 256), .int .u8 ((s : Int) % 256)] 5)
  have hB4 := Lib.hid (hBx.grown hg4_ hBx.size (own_ge hO1.out))
  have hO4 := Lib.hid hO4_
  clear hO4_ hg4_ hBx
  go_wp2_with fail
  go_ret
  have hO5 : OB w4 w.heap.size v4 (wrapB p) := by
    have e : wrapB p = l ++ tailB s := by rw [wrapB, ← hM.out, hL.out, hCS.out]
    rw [e]
    exact hO4.out
  exact RB_mk_wrap hO5 hB4.out
end Go.Proofs.YteeiacfddjhhkaaGreatDoor
namespace Go.Proofs.YteeiacfddjhhkaaGreatDoor
open Go.RowKit
set_option maxRecDepth 100000

theorem rmsgMay_any (m : PMsg) (A : Option Addr) (c : Nat) (B : Option Addr) (d : Nat) (w : World) (hr : RowAt w B (opsC m.ops)) (hl : m.ops.length ≤ 1000000) (hl2 : m.told.length ≤ 1000000) (hk : ∀ o ∈ m.ops, o.key.size ≤ 1000000) :
    Calls Tryz.prog 105 #[.agg (msgA m A c B d)] w fun e w' => e = .returned (.bool (mayM m)) ∧ Below w.heap.size w w' := by
  by_cases h1 : m.kind = 1
  · exact rmay_tlo_true m A c B d w hr hl hl2 hk (by rw [h1]; exact rHas_1) (by omega) (may_ref_1 m h1)
  by_cases h4 : m.kind = 4
  · exact rmay_tlo_true m A c B d w hr hl hl2 hk (by rw [h4]; exact rHas_4) (by omega) (may_ref_4 m h4)
  by_cases h2 : m.kind = 2
  · exact rmay_tl_true m A c B d w hr hl hl2 hk (by rw [h2]; exact rHas_2) (by omega) (may_ref_2 m h2)
  by_cases h3 : m.kind = 3
  · exact rmay_l_true m A c B d w hr hl hl2 hk (by rw [h3]; exact rHas_3) (by omega) (may_ref_3 m h3)
  by_cases h11 : m.kind = 11
  · exact rmay_tk_false m A c B d w hr hl hl2 hk (by rw [h11]; exact rHas_11) (by omega) (may_ref_11 m h11)
  by_cases h12 : m.kind = 12
  · exact rmay_tc_false m A c B d w hr hl hl2 hk (by rw [h12]; exact rHas_12) (by omega) (may_ref_12 m h12)
  by_cases h14 : m.kind = 14
  · exact rmay_tc_false m A c B d w hr hl hl2 hk (by rw [h14]; exact rHas_14) (by omega) (may_ref_14 m h14)
  by_cases h13 : m.kind = 13
  · exact rmay_e_false m A c B d w hr hl hl2 hk (by rw [h13]; exact rHas_13) (by omega) (may_ref_13 m h13)
  by_cases h15 : m.kind = 15
  · exact rmay_e_false m A c B d w hr hl hl2 hk (by rw [h15]; exact rHas_15) (by omega) (may_ref_15 m h15)
  by_cases h16 : m.kind = 16
  · exact rmay_e_false m A c B d w hr hl hl2 hk (by rw [h16]; exact rHas_16) (by omega) (may_ref_16 m h16)
  have e : ∀ n : Int, m.kind ≠ n → (m.kind == n) = false := fun n h => by simpa using h
  have hno := may_ref_no m (e 1 h1) (e 4 h4) (e 2 h2) (e 3 h3) (e 11 h11) (e 12 h12) (e 14 h14) (e 13 h13) (e 15 h15) (e 16 h16)
  have hH := Lib.hid (fun w => rHas_no m.kind w (e 1 h1) (e 4 h4) (e 2 h2) (e 3 h3) (e 11 h11) (e 12 h12) (e 14 h14) (e 13 h13) (e 15 h15) (e 16 h16))
  have hNO := Lib.hid hno
  clear h1 h4 h2 h3 h11 h12 h14 h13 h15 h16 e hno hr hk
  obtain ⟨kind, from_, to_, g, node, try_, low, code, ticket, told, ops⟩ := m
  simp only at hH
  have hB0 := Lib.hid (below_alloc (Below.refl _ w) (.cells #[.int .i64 kind, .int .i64 from_, .int .i64 to_, .int .i64 g, .int .i64 node, .int .i64 try_, .int .i64 low, .int .i64 code, .int .i64 ticket, .slice A told.length c, .slice B ops.length d] 31))
  show Calls Tryz.prog 105 #[.agg #[.int .i64 kind, .int .i64 from_, .int .i64 to_, .int .i64 g, .int .i64 node, .int .i64 try_, .int .i64 low, .int .i64 code, .int .i64 ticket, .slice A told.length c, .slice B ops.length d]] w _
  go_enter Tryz.func105, Tryz.ntmps105
  go_wp2_with fail
  refine (hH.out _).mono ?_
  rintro e w1 ⟨rfl, rfl⟩
  go_wp2_with fail
  go_ret
  exact ⟨ret_bool hNO.out.symm, hB0.out⟩
set_option maxHeartbeats 2000000 in
theorem renc_any (m : PMsg) (A : Option Addr) (c : Nat) (B : Option Addr) (d : Nat) (w : World) (hr : MsgR w m A c B d) (hl0 : m.ops.length ≤ 1000000) (hl1 : m.told.length ≤ 1000000) (hk0 : ∀ o ∈ m.ops, o.key.size ≤ 1000000) :
    Calls Tryz.prog 78 #[.agg (msgA m A c B d)] w (RetB w (encM m)) := by
  have hMay := fun W hr => rmsgMay_any m A c B d W hr hl0 hl1 hk0
  have hMAY := Lib.hid hMay
  have hcase : (mayM m = false ∧ encM m = []) ∨ (mayM m = true ∧ encM m = wrapB (bodyM m)) := by
    cases h : mayM m
    · exact .inl ⟨rfl, by rw [encM, h]; rfl⟩
    · exact .inr ⟨rfl, by rw [encM, h]; rfl⟩
  have hCASE := Lib.hid hcase
  clear hMay hcase
  obtain ⟨kind, from_, to_, g, node, try_, low, code, ticket, told, ops⟩ := m
  have hR := Lib.hid hr
  have hl1 : told.length ≤ 1000000 := hr.toldle
  have hl0 : ops.length ≤ 1000000 := hr.opsle
  clear hr hk0
  show Calls Tryz.prog 78 #[.agg #[.int .i64 kind, .int .i64 from_, .int .i64 to_, .int .i64 g, .int .i64 node, .int .i64 try_, .int .i64 low, .int .i64 code, .int .i64 ticket, .slice A told.length c, .slice B ops.length d]] w _
  have hb0 := Lib.hid (heap_alloc_new w (.cells #[.int .i64 kind, .int .i64 from_, .int .i64 to_, .int .i64 g, .int .i64 node, .int .i64 try_, .int .i64 low, .int .i64 code, .int .i64 ticket, .slice A told.length c, .slice B ops.length d] 31))
  have hB0 := Lib.hid (below_alloc (Below.refl _ w) (.cells #[.int .i64 kind, .int .i64 from_, .int .i64 to_, .int .i64 g, .int .i64 node, .int .i64 try_, .int .i64 low, .int .i64 code, .int .i64 ticket, .slice A told.length c, .slice B ops.length d] 31))
  go_enter Tryz.func78, Tryz.ntmps78
  go_wp2_with fail
  refine (hMAY.out _ (hR.out.ops.below hB0.out)).mono ?_
  rintro en w1 ⟨rfl, hB1_⟩
  have hB1 := Lib.hid (bnext hB0.out hB1_)
  have hb1 := Lib.hid (block_below hB1_ hb0.out)
  clear hB1_
  rcases hCASE.out with ⟨hm, he⟩ | ⟨hm, he⟩
  · have hEQ := Lib.hid he
    rw [hm]
    clear hm he
    go_wp2_with fail
    go_ret
    rw [hEQ.out]
    exact RetB.mk (v := .slice none 0 0) rfl (OB.nil _ _) hB1.out
  have hEQ := Lib.hid he
  rw [hm]
  have hF := Lib.hid (mayM_facts hm)
  have hBL := Lib.hid (bodyM_len hm)
  clear hm he
  have x0 : w1.cell? ⟨w.heap.size, 0, none⟩ = some (.int .i64 kind) := by rw [block_cell hb1.out]; rfl
  have x1 : w1.cell? ⟨w.heap.size, 1, none⟩ = some (.int .i64 from_) := by rw [block_cell hb1.out]; rfl
  have x2 : w1.cell? ⟨w.heap.size, 2, none⟩ = some (.int .i64 to_) := by rw [block_cell hb1.out]; rfl
  have x3 : w1.cell? ⟨w.heap.size, 3, none⟩ = some (.int .i64 g) := by rw [block_cell hb1.out]; rfl
  have x4 : w1.cell? ⟨w.heap.size, 4, none⟩ = some (.int .i64 node) := by rw [block_cell hb1.out]; rfl
  have x5 : w1.cell? ⟨w.heap.size, 5, none⟩ = some (.int .i64 try_) := by rw [block_cell hb1.out]; rfl
  have x6 : w1.cell? ⟨w.heap.size, 6, none⟩ = some (.int .i64 low) := by rw [block_cell hb1.out]; rfl
  have x7 : w1.cell? ⟨w.heap.size, 7, none⟩ = some (.int .i64 code) := by rw [block_cell hb1.out]; rfl
  have hIB := Lib.hid (below_alloc (Below.refl _ w1) (.cells #[.int .i64 kind, .int .i64 from_, .int .i64 to_, .int .i64 g, .int .i64 node, .int .i64 try_, .int .i64 low, .int .i64 code] 3))
  have hrow := Lib.hid (RowAt.made (w := w1) (cs := #[.int .i64 kind, .int .i64 from_, .int .i64 to_, .int .i64 g, .int .i64 node, .int .i64 try_, .int .i64 low, .int .i64 code]) (T := 3) (xs := i64s (numsM ⟨kind, from_, to_, g, node, try_, low, code, ticket, told, ops⟩)) rfl)
  go_wp2_with fail
  generalize w1.alloc (.cells #[.int .i64 kind, .int .i64 from_, .int .i64 to_, .int .i64 g, .int .i64 node, .int .i64 try_, .int .i64 low, .int .i64 code] 3) = W at *
  obtain ⟨nums, hnums⟩ : ∃ l, numsM ⟨kind, from_, to_, g, node, try_, low, code, ticket, told, ops⟩ = l := ⟨_, rfl⟩
  have hn8 : nums.length = 8 := by rw [← hnums]; rfl
  have hN8 := Lib.hid hn8
  have hNums := Lib.hid hnums
  have hnr : ∀ n ∈ nums, 0 ≤ n ∧ n < 2147483648 := by
    have f := hF.out
    have f1 := f.kind
    have f2 := f.from_
    have f3 := f.to_
    have f4 := f.g
    have f5 := f.node
    have f6 := f.try_
    have f7 := f.low
    have f8 := f.code
    rw [← hnums]
    simp only [numsM, List.mem_cons, List.not_mem_nil, or_false]
    simp only at f1 f2 f3 f4 f5 f6 f7 f8
    rintro n (rfl | rfl | rfl | rfl | rfl | rfl | rfl | rfl) <;> omega
  have hNR := Lib.hid hnr
  rw [hnums] at hrow
  have hbW := Lib.hid (block_below hIB.out hb1.out)
  have hBW := Lib.hid (bnext hB1.out hIB.out)
  clear hn8 hnums hnr x0 x1 x2 x3 x4 x5 x6 x7 hIB hb1 hb0 hB0
  go_loopw [3, 5, 29] (fun s _ i wr => ∃ k : Nat, k ≤ 8 ∧ i = .int .i64 k ∧ OB wr W.heap.size s ((nums.take k).map natI).flatten ∧ Below W.heap.size W wr) (fun _ _ i _ => 8 - (intOf i).toNat)
  case atStart => exact ⟨0, by omega, rfl, OB.nil _ _, Below.refl _ _⟩
  case round =>
    obtain ⟨k, hk, rfl, hO_, hB_⟩ := hrel
    have hO := Lib.hid hO_
    have hB := Lib.hid (bnext hBW.out hB_)
    have hBr := Lib.hid hB_
    have hrow2 := Lib.hid (hrow.out.below hB_)
    have hbr := Lib.hid (block_below hB_ hbW.out)
    clear hO_ hB_
    by_cases hlt : k < 8
    · have hk8 : k < nums.length := by rw [hN8.out]; exact hlt
      obtain ⟨x, hx⟩ : ∃ x, nums[k]? = some x := ⟨_, List.getElem?_eq_getElem hk8⟩
      obtain ⟨ad, had, hc⟩ := hrow2.out k (.int .i64 x) (by rw [i64s, List.getElem?_map, hx]; rfl)
      obtain rfl : _ = ad := by simpa using had
      rw [add_plain] at hc
      have hxr := hNR.out x (List.mem_of_getElem? hx)
      have hX := Lib.hid hx
      obtain ⟨hx0, hx1⟩ := hxr
      clear had hx
      go_wp2_with fail
      refine (rnat_int x hx0 (by omega) _).mono ?_
      rintro en w2 ⟨A2, d2, rfl, hO2_, hB2_⟩
      have hO2 := Lib.hid hO2_
      have hB2 := Lib.hid hB2_
      clear hO2_ hB2_ hc
      go_wp2_with (at_builtin; refine list_of_wp rfl ?_; refine wp_append_B (.tmp 33) (.tmp 36) rfl W.heap.size u3 (.slice A2 (natB x.toNat).length d2) _ (natB x.toNat) _ rfl rfl (hO.out.below hB2.out) rfl (RB.of_own hO2.out) ?c1 (bnext hBr.out hB2.out).size ?_)
      case c1 =>
        have h1 := natB_length x.toNat
        have h2 := flat_le natI 9 (nums.take k) (k := 8) (by simp; omega) (fun n _ => natB_length _)
        omega
      intro v3 w3 hO3_ hg3_ _
      have hO3 := Lib.hid hO3_
      have hBr3 : Hid (Below W.heap.size W w3) := Lib.hid ((bnext hBr.out hB2.out).grown hg3_ (bnext hBr.out hB2.out).size (own_ge hO.out))
      clear hO3_ hg3_
      go_wp2_with fail
      go_roundw
      case rel => exact ⟨k + 1, by omega, by go_num, by rw [flat_snoc_opt _ _ _ _ hX.out]; have h := hO3.out; rw [← List.map_take] at h; exact h, hBr3.out⟩
      case measure => simp [intOf]; omega
    · have hO9 := hO.out
      rw [show nums.take k = nums from List.take_of_length_le (by rw [hN8.out]; omega)] at hO9
      obtain ⟨bs1, hbs1⟩ : ∃ l, (nums.map natI).flatten = l := ⟨_, rfl⟩
      have hbl1 := flat_le natI 9 nums (k := 8) (by rw [hN8.out]; omega) (fun n _ => natB_length _)
      rw [hbs1] at hO9 hbl1
      have hBS1 := Lib.hid hbs1
      have hO1 := Lib.hid (show OB wr.drew W.heap.size u3 bs1 from hO9)
      clear hbs1 hO9 hO hrow2
      have f9 := hF.out.ticket
      simp only at f9
      have f10 := hR.out.nums.2.2.2.2.2.2.2.2
      simp only at f10
      obtain ⟨f11, f12⟩ := f10
      have x8 : wr.cell? ⟨w.heap.size, 8, none⟩ = some (.int .i64 ticket) := by rw [block_cell hbr.out]; rfl
      have x9 : wr.cell? ⟨w.heap.size, 9, none⟩ = some (.slice A told.length c) := by rw [block_cell hbr.out]; rfl
      have twr : IntKind.u64.wrap ticket = ticket := by rw [IntKind.wrap_u64]; omega
      have lwr : IntKind.u64.wrap (told.length : Int) = told.length := by rw [IntKind.wrap_u64]; omega
      have hlt64 : told.length < 18446744073709551616 := by omega
      have htk64 : ticket < 18446744073709551616 := by omega
      have hO1b : Hid (OB wr W.heap.size u3 bs1) := Lib.hid hO1.out
      go_wp2_with fail
      refine (rnat_int ticket f9 htk64 _).mono ?_
      rintro e w4 ⟨A4, d4, rfl, hO4_, hB4_⟩
      have hO4 := Lib.hid hO4_
      have hB4 := Lib.hid (bnext hBr.out hB4_)
      have hV4 := Lib.hid (hO1b.out.below hB4_)
      clear hO4_ hB4_ x8 x9
      obtain ⟨bs2, hbs2⟩ : ∃ l, bs1 ++ natB ticket.toNat = l := ⟨_, rfl⟩
      have hBS2 := Lib.hid hbs2
      have hbl2 : bs2.length ≤ 81 := by have h1 := natB_length ticket.toNat; rw [← hbs2, List.length_append]; omega
      have hT2 : Hid (bs1.length + (natB ticket.toNat).length ≤ 140737488355328) := Lib.hid (by rw [← List.length_append, hbs2]; omega)
      clear hbs2
      go_wp2_with (at_builtin; refine list_of_wp rfl ?_; refine wp_append_B (.tmp 39) (.tmp 43) rfl W.heap.size u3 (.slice A4 (natB ticket.toNat).length d4) bs1 (natB ticket.toNat) _ hBS2.out rfl hV4.out rfl (RB.of_own hO4.out) hT2.out hB4.out.size ?_)
      intro v5 w5 hV5_ hg5_ _
      have hV5 := Lib.hid hV5_
      have hB5 := Lib.hid (hB4.out.grown hg5_ hB4.out.size (own_ge hV4.out))
      have hbr5 := Lib.hid (block_below hB5.out hbW.out)
      clear hV5_ hg5_
      have y9 : w5.cell? ⟨w.heap.size, 9, none⟩ = some (.slice A told.length c) := by rw [block_cell hbr5.out]; rfl
      go_wp2_with fail
      refine (rnat_any told.length hlt64 _).mono ?_
      rintro e w6 ⟨A6, d6, rfl, hO6_, hB6_⟩
      have hO6 := Lib.hid hO6_
      have hB6 := Lib.hid (bnext hB5.out hB6_)
      have hV6 := Lib.hid (hV5.out.below hB6_)
      clear hO6_ hB6_ y9
      obtain ⟨bs3, hbs3⟩ : ∃ l, bs2 ++ natB told.length = l := ⟨_, rfl⟩
      have hBS3 := Lib.hid hbs3
      have hbl3 : bs3.length ≤ 90 := by have h1 := natB_length told.length; rw [← hbs3, List.length_append]; omega
      have hT3 : Hid (bs2.length + (natB told.length).length ≤ 140737488355328) := Lib.hid (by rw [← List.length_append, hbs3]; omega)
      clear hbs3
      go_wp2_with (at_builtin; refine list_of_wp rfl ?_; refine wp_append_B (.tmp 45) (.tmp 50) rfl W.heap.size v5 (.slice A6 (natB told.length).length d6) bs2 (natB told.length) _ hBS3.out rfl hV6.out rfl (RB.of_own hO6.out) hT3.out hB6.out.size ?_)
      intro v9 w9 hV9_ hg9_ _
      have hO9 := Lib.hid hV9_
      have hB9 := Lib.hid (hB6.out.grown hg9_ hB6.out.size (own_ge hV6.out))
      have hbr99 := Lib.hid (block_below hB9.out hbW.out)
      have z9 : w9.cell? ⟨w.heap.size, 9, none⟩ = some (.slice A told.length c) := by rw [block_cell hbr99.out]; rfl
      clear hV9_ hg9_
      go_wp2_with fail
      have hbr9 := Lib.hid (block_below hB9.out hbW.out)
      have hToldR := Lib.hid (hR.out.told.below hBW.out)
      have f8 := hF.out.told
      simp only at f8
      clear hO1 hO1b hB4 hB5 hB6 hV4 hV5 hV6 hO4 hO6 twr lwr z9
      go_loopw [3, 7, 55] (fun s _ i wr => ∃ k : Nat, k ≤ told.length ∧ i = .int .i64 k ∧ OB wr W.heap.size s (bs3 ++ ((told.take k).map numB).flatten) ∧ Below W.heap.size W wr) (fun _ _ i _ => told.length - (intOf i).toNat)
      case atStart => exact ⟨0, by omega, rfl, by simpa using hO9.out, hB9.out⟩
      case round =>
        obtain ⟨k, hk, rfl, hO_, hB_⟩ := hrel
        have hOa := Lib.hid hO_
        have hBa := Lib.hid hB_
        have hBb := Lib.hid hB_
        have hTb := Lib.hid (hToldR.out.below hB_)
        have hbr2 := Lib.hid (block_below hB_ hbW.out)
        clear hO_ hB_
        by_cases hlt : k < told.length
        · obtain ⟨x, hx⟩ : ∃ x, told[k]? = some x := ⟨_, List.getElem?_eq_getElem hlt⟩
          obtain ⟨ad, rfl, hc⟩ := hTb.out k (.int .i64 x) (by rw [i64s, List.getElem?_map, hx]; rfl)
          obtain ⟨hx0, hx1⟩ := hR.out.toldok x (List.mem_of_getElem? hx)
          have hX := Lib.hid hx
          clear hx
          go_wp2_with fail
          refine (rnum_any x hx0 hx1 _).mono ?_
          rintro en w10 ⟨A2, d2, rfl, hO2_, hB2_⟩
          have hO2 := Lib.hid hO2_
          have hB2 := Lib.hid hB2_
          clear hO2_ hB2_ hc
          have hne : Hid ((bs3 ++ ((told.take k).map numB).flatten).length + (numB x).length ≤ 140737488355328) := Lib.hid (by
            have h1 := numB_length x
            have h2 := flat_le numB 9 (told.take k) (k := 8) (by simp; omega) (fun n _ => numB_length _)
            rw [List.length_append]
            omega)
          obtain ⟨rs, hrs⟩ : ∃ r, bs3 ++ ((told.take k).map numB).flatten ++ numB x = r := ⟨_, rfl⟩
          have hRS := Lib.hid hrs
          clear hrs
          go_wp2_with (at_builtin; refine list_of_wp rfl ?_; refine wp_append_B (.tmp 59) (.tmp 61) rfl W.heap.size u3 (.slice A2 (numB x).length d2) _ (numB x) rs hRS.out rfl (hOa.out.below hB2.out) rfl (RB.of_own hO2.out) hne.out (bnext hBb.out hB2.out).size ?_)
          intro v3 w3 hO3_ hg3_ _
          have hO3 := Lib.hid hO3_
          have hB3 := Lib.hid ((bnext hBb.out hB2.out).grown hg3_ (bnext hBb.out hB2.out).size (own_ge hOa.out))
          clear hO3_ hg3_
          go_wp2_with fail
          go_roundw
          case rel => exact ⟨k + 1, by omega, by go_num, by rw [flat_snoc_opt _ _ _ _ hX.out, ← List.append_assoc, hRS.out]; exact hO3.out, hB3.out⟩
          case measure => simp [intOf]; omega
        · have hO12 := hOa.out
          rw [show told.take k = told from List.take_of_length_le (by omega)] at hO12
          obtain ⟨bs4, hbs4⟩ : ∃ l, bs3 ++ (told.map numB).flatten = l := ⟨_, rfl⟩
          rw [hbs4] at hO12
          obtain ⟨A12, d12, rfl⟩ := own_slice hO12
          have hO12' := Lib.hid hO12
          have hBS4 := Lib.hid hbs4
          have x10 : wr.cell? ⟨w.heap.size, 10, none⟩ = some (.slice B ops.length d) := by rw [block_cell hbr2.out]; rfl
          have hOps := Lib.hid (hR.out.ops.below (bnext hBW.out hBb.out))
          clear hbs4 hO12 hOa hTb
          go_wp2_with fail
          refine (ropsEnc_any B d ops _ hOps.out hl0 (fun o ho => ⟨hR.out.opsok o ho, by have := (plainO_kind ((checkO_len hF.out.ops).2 o ho).1).1; omega⟩) hR.out.keys).mono ?_
          rintro en w11 ⟨A11, d11, rfl, hO11_, hB11_⟩
          have hO11 := Lib.hid hO11_
          have hB11 := Lib.hid hB11_
          clear hO11_ hB11_
          go_wp2_with (refine list_of_wp rfl ?_; refine wp_conv_BS (.tmp 67) _ (opsB ops) rfl rfl (RB.of_own hO11.out) ?_)
          have hsz : (⟨(opsB ops).toArray⟩ : ByteArray).size = (opsB ops).length := rfl
          have hbody : bodyM ⟨kind, from_, to_, g, node, try_, low, code, ticket, told, ops⟩ = bs4 ++ strB (opsB ops) := by
            unfold bodyM
            rw [hNums.out]
            show (nums.map natI).flatten ++ (natI ticket ++ natB told.length) ++ (told.map numB).flatten ++ strB (opsB ops) = _
            rw [hBS1.out, ← List.append_assoc, show natI ticket = natB ticket.toNat from rfl, hBS2.out, hBS3.out, hBS4.out]
          have hBLO := hBL.out
          rw [hbody] at hBLO
          have hEQ2 := hEQ.out
          rw [hbody] at hEQ2
          have hstl : (strB (opsB ops)).length = (natB (opsB ops).length).length + (opsB ops).length := by simp [strB]
          have hops9 : (opsB ops).length ≤ 1000 := by rw [List.length_append, hstl] at hBLO; omega
          obtain ⟨S, hS⟩ : ∃ s, strB (opsB ops) = s := ⟨_, rfl⟩
          rw [hS] at hBLO hEQ2 hbody
          obtain ⟨sa, hsa⟩ : ∃ s : ByteArray, (⟨(opsB ops).toArray⟩ : ByteArray) = s := ⟨_, rfl⟩
          have hsl : sa.size ≤ 140737488355000 := by rw [← hsa, hsz]; omega
          have hsd : strB sa.data.toList = S := by rw [← hsa]; exact hS
          have hSD := Lib.hid hsd
          have hE3 := Lib.hid hEQ2
          have hB3L := Lib.hid hBLO
          rw [hsa]
          clear hsa hsz hS hsd hEQ2 hBLO hbody hstl
          go_wp2_with fail
          refine (rstr_any sa hsl _).mono ?_
          rintro en w12 ⟨A13, d13, rfl, hO13_, hB13_⟩
          rw [hSD.out] at hO13_ ⊢
          have hO13 := Lib.hid hO13_
          have hB13 := Lib.hid (bnext (bnext hBb.out hB11.out) hB13_)
          have hV13 := Lib.hid (OB.below hO12'.out (bnext hB11.out hB13_))
          clear hO13_ hB13_
          obtain ⟨body, hbd⟩ : ∃ l, bs4 ++ S = l := ⟨_, rfl⟩
          have hBD := Lib.hid hbd
          rw [hbd] at hE3 hB3L
          have hT13 : Hid (bs4.length + S.length ≤ 140737488355328) := Lib.hid (by have h := hB3L.out; rw [← List.length_append, hbd]; omega)
          clear hbd
          go_wp2_with (at_builtin; refine list_of_wp rfl ?_; refine wp_append_B (.tmp 64) (.tmp 69) rfl W.heap.size (.slice A12 bs4.length d12) (.slice A13 S.length d13) bs4 S _ hBD.out rfl hV13.out rfl (RB.of_own hO13.out) hT13.out hB13.out.size ?_)
          intro v14 w14 hV14_ hg14_ _
          obtain ⟨A14, d14, rfl⟩ := own_slice hV14_
          have hO14 := Lib.hid hV14_
          have hB14 := Lib.hid (hB13.out.grown hg14_ hB13.out.size (own_ge hV13.out))
          clear hV14_ hg14_
          go_wp2_with fail
          refine (rwrap_one _ body _ (RB.of_own hO14.out) (by have h := hB3L.out; omega)).mono ?_
          rintro en w15 ⟨A15, d15, rfl, hO15_, hB15_⟩
          have hO15 := Lib.hid hO15_
          have hB15 := Lib.hid hB15_
          have hend := Lib.hid (bnext (bnext hBW.out hB14.out) hB15.out)
          clear hO15_ hB15_
          go_wp2_with fail
          go_ret
          rw [hE3.out]
          exact RetB.mk (v := .slice A15 (wrapB body).length d15) rfl (hO15.out.lower (by have h := (bnext hBW.out hB14.out).size; omega)) hend.out
end Go.Proofs.YteeiacfddjhhkaaGreatDoor
