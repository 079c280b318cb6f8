/- The law's own small functions: Cut of operations, Cut of a message, Ours, Plain. byroadlaw19.Cut: a message that is not too great. byroadlaw19.Cut in one word: the message cut, of the law's own. -/
import Derived.Test.YteeiacfddjhhkaaGreatDoorFrame
namespace Go.Proofs.YteeiacfddjhhkaaGreatDoor
open Go.RowKit
set_option maxRecDepth 100000

def cutO (o : POp) : POp := if 20 < o.key.size then { o with key := o.key.extract 0 20 } else o
def cutOs (l : List POp) : List POp := (l.take 12).map cutO
def cutM (m : PMsg) : PMsg := { m with told := m.told.take 12, ops := cutOs m.ops }
theorem cutO_ok {o : POp} (h : o.ok) : (cutO o).ok := by
  unfold cutO
  split
  · exact h
  · exact h
theorem cutO_key (o : POp) : (cutO o).key.size ≤ 20 := by
  unfold cutO
  split
  · simp [ByteArray.size_extract]; omega
  · omega
theorem cutOs_len (l : List POp) : (cutOs l).length ≤ 12 := by simp [cutOs]; omega
theorem opsC_app (l : List POp) (o : POp) : opsC (l ++ [o]) = opsC l ++ opC o := by simp [opsC]
set_option maxHeartbeats 1000000 in
theorem cutOps_any (A : Option Addr) (c : Nat) (l : List POp) (w : World) (hr : RowAt w A (opsC l)) (hk : ∀ o ∈ l, o.key.size ≤ maxLen) (hl : l.length ≤ maxLen) :
    Calls Tryz.prog 32 #[.slice A l.length c] w fun e w' => ∃ A' c', e = .returned (.slice A' (cutOs l).length c') ∧ w'.ownsRow w.heap.size 108 4 (.slice A' (cutOs l).length c') (cutOs l).length (opsC (cutOs l)) ∧ Below w.heap.size w w' := by
  have hR := Lib.hid hr
  have hKK := Lib.hid hk
  have hl2 : l.length ≤ 9223372036854775807 := by simp only [maxLen] at hl; omega
  clear hr hk hl
  go_enter Tryz.func32, Tryz.ntmps32
  go_wp2_with fail
  go_loopw [3, 8] (fun s i wr => ∃ k : Nat, k ≤ l.length ∧ k ≤ 12 ∧ i = .int .i64 k ∧ wr.ownsRow w.heap.size 108 4 s ((l.take k).map cutO).length (opsC ((l.take k).map cutO)) ∧ Below w.heap.size w wr) (fun _ i _ => l.length - (intOf i).toNat)
  case atStart => exact ⟨0, by omega, by omega, rfl, by simpa [opsC] using own_nil _ _ _ _, Below.refl _ _⟩
  case round =>
    obtain ⟨k, hk, hk12, rfl, hO_, hB_⟩ := hrel
    obtain ⟨ls, hls⟩ : ∃ ls, ls = (l.take k).map cutO := ⟨_, rfl⟩
    rw [← hls] at hO_
    have hLS := Lib.hid hls
    clear hls
    obtain ⟨A', c', rfl⟩ := own_slice hO_
    have hO := Lib.hid hO_
    have hB := Lib.hid hB_
    by_cases hlt : k < l.length
    · obtain ⟨ad, rfl, c0, c1, c2, c3⟩ := ops_at (hR.out.below hB_) hlt
      obtain ⟨x, hx⟩ : ∃ x, l[k] = x := ⟨_, rfl⟩
      have hkx := hKK.out _ (List.getElem_mem hlt)
      rw [hx] at c0 c1 c2 c3 hkx
      have hX := Lib.hid hx
      obtain ⟨kind, key, n, lo⟩ := x
      simp only at c0 c1 c2 c3 hkx
      clear hO_ hB_ hx
      by_cases h12 : 12 ≤ k
      · have d12 : decide ((12 : Int) ≤ k) = true := by simp; omega
        have hfin : Hid (ls = cutOs l) := Lib.hid (by rw [hLS.out, show k = 12 by omega]; rfl)
        clear h12
        go_wp2_with fail
        go_ret
        have hO2 := hO.out
        rw [hfin.out] at hO2
        exact ⟨A', c', by rw [hfin.out]; rfl, own_below hO2 (below_alloc (Below.refl _ wr) _), below_alloc hB.out _⟩
      · have d12 : decide ((12 : Int) ≤ k) = false := by simp; omega
        by_cases hbig : 20 < key.size
        · have db : decide ((20 : Int) < key.size) = true := by simp; omega
          have hcut : Hid (cutO ⟨kind, key, n, lo⟩ = ⟨kind, (key.extract 0 20), n, lo⟩) := Lib.hid (by unfold cutO; simp; omega)
          have hls2 : Hid ((l.take (k + 1)).map cutO = ls ++ [⟨kind, (key.extract 0 20), n, lo⟩]) := Lib.hid (by rw [List.take_succ_eq_append_getElem hlt, List.map_append, ← hLS.out, hX.out, List.map_singleton, hcut.out])
          have hBx := Lib.hid (below_alloc (below_alloc (Below.refl _ wr) (.cells #[.int .i64 kind, .string (key.extract 0 20), .int .i64 n, .int .i64 lo] 108)) (.cells #[.int .i64 kind, .string (key.extract 0 20), .int .i64 n, .int .i64 lo] 108))
          have hown := Lib.hid (own_below hO.out hBx.out)
          have hlsl : ls.length ≤ 12 := by rw [hLS.out]; simp; omega
          have hby : Hid ((ls.length + 1) * 40 ≤ 140737488355328) := Lib.hid (by omega)
          have hbase := Lib.hid (Nat.le_trans hB.out.size hBx.out.size)
          go_wp2_with (at_builtin; refine list_of_wp rfl ?_; refine wp_append_row (.tmp 23) (.tmp 25) 29 rfl w.heap.size 108 (.agg #[.int .i64 0, .string ⟨#[]⟩, .int .i64 0, .int .i64 0]) 4 40 Tryz.underlying29 Tryz.infoOp rfl (by decide) (by decide) (.slice A' ls.length c') ls.length (opsC ls) rfl hown.out (some ⟨wr.heap.size + 1, 0, none⟩) 1 1 (opC ⟨kind, (key.extract 0 20), n, lo⟩) rfl (by simp) (by decide) rfl (by rw [← World.size_alloc wr (.cells #[.int .i64 kind, .string (key.extract 0 20), .int .i64 n, .int .i64 lo] 108)]; exact RowAt.made rfl) (by simp [opC, Value.oneCell']) hby.out hbase.out ?_)
          intro v9 w9 hO9_ hG9_ _
          obtain ⟨A9, d9, rfl⟩ := own_slice hO9_
          have hO9 := Lib.hid hO9_
          have hB9 := Lib.hid ((bnext hB.out hBx.out).grown hG9_ (bnext hB.out hBx.out).size (own_ge hO.out))
          clear hO9_ hG9_
          go_wp2_with fail
          go_roundw
          case rel => exact ⟨k + 1, by omega, by omega, by go_num, by rw [hls2.out, List.length_append, List.length_singleton, opsC_app]; exact hO9.out, hB9.out⟩
          case measure => simp [intOf]; omega
        · have db : decide ((20 : Int) < key.size) = false := by simp; omega
          have hcut : Hid (cutO ⟨kind, key, n, lo⟩ = ⟨kind, key, n, lo⟩) := Lib.hid (by unfold cutO; simp; omega)
          have hls2 : Hid ((l.take (k + 1)).map cutO = ls ++ [⟨kind, key, n, lo⟩]) := Lib.hid (by rw [List.take_succ_eq_append_getElem hlt, List.map_append, ← hLS.out, hX.out, List.map_singleton, hcut.out])
          have hBx := Lib.hid (below_alloc (below_alloc (Below.refl _ wr) (.cells #[.int .i64 kind, .string key, .int .i64 n, .int .i64 lo] 108)) (.cells #[.int .i64 kind, .string key, .int .i64 n, .int .i64 lo] 108))
          have hown := Lib.hid (own_below hO.out hBx.out)
          have hlsl : ls.length ≤ 12 := by rw [hLS.out]; simp; omega
          have hby : Hid ((ls.length + 1) * 40 ≤ 140737488355328) := Lib.hid (by omega)
          have hbase := Lib.hid (Nat.le_trans hB.out.size hBx.out.size)
          go_wp2_with (at_builtin; refine list_of_wp rfl ?_; refine wp_append_row (.tmp 23) (.tmp 25) 29 rfl w.heap.size 108 (.agg #[.int .i64 0, .string ⟨#[]⟩, .int .i64 0, .int .i64 0]) 4 40 Tryz.underlying29 Tryz.infoOp rfl (by decide) (by decide) (.slice A' ls.length c') ls.length (opsC ls) rfl hown.out (some ⟨wr.heap.size + 1, 0, none⟩) 1 1 (opC ⟨kind, key, n, lo⟩) rfl (by simp) (by decide) rfl (by rw [← World.size_alloc wr (.cells #[.int .i64 kind, .string key, .int .i64 n, .int .i64 lo] 108)]; exact RowAt.made rfl) (by simp [opC, Value.oneCell']) hby.out hbase.out ?_)
          intro v9 w9 hO9_ hG9_ _
          obtain ⟨A9, d9, rfl⟩ := own_slice hO9_
          have hO9 := Lib.hid hO9_
          have hB9 := Lib.hid ((bnext hB.out hBx.out).grown hG9_ (bnext hB.out hBx.out).size (own_ge hO.out))
          clear hO9_ hG9_
          go_wp2_with fail
          go_roundw
          case rel => exact ⟨k + 1, by omega, by omega, by go_num, by rw [hls2.out, List.length_append, List.length_singleton, opsC_app]; exact hO9.out, hB9.out⟩
          case measure => simp [intOf]; omega
    · have hfin : Hid (ls = cutOs l) := Lib.hid (by
        rw [hLS.out, cutOs, List.take_of_length_le (by omega), List.take_of_length_le (by omega)])
      clear hO_ hB_
      go_wp2_with fail
      go_ret
      have hO2 := hO.out
      rw [hfin.out] at hO2
      exact ⟨A', c', by rw [hfin.out]; rfl, hO2, hB.out⟩
theorem Ours_any (m : PMsg) (A : Option Addr) (c : Nat) (B : Option Addr) (d : Nat) (w : World) :
    Calls Tryz.prog 10 #[.agg (msgA m A c B d)] w fun e w' => e = .returned (.agg (msgA m A c B d)) ∧ Below w.heap.size w w' := by
  obtain ⟨kind, from_, to_, g, node, try_, low, code, ticket, told, ops⟩ := m
  simp only [msgA]
  go_enter Tryz.func10, Tryz.ntmps10
  go_wp2_with fail
  have hb := heap_alloc_new (w.alloc (.cells #[.int .i64 kind, .int .i64 from_, .int .i64 to_, .int .i64 g, .int .i64 node, .int .i64 try_, .int .i64 low, .int .i64 code, .int .i64 ticket, .slice A told.length c, .slice B ops.length d] 31)) (.cells #[.int .i64 kind, .int .i64 from_, .int .i64 to_, .int .i64 g, .int .i64 node, .int .i64 try_, .int .i64 low, .int .i64 code, .int .i64 ticket, .slice A told.length c, .slice B ops.length d] 37)
  rw [World.size_alloc] at hb
  have hB := below_alloc (below_alloc (Below.refl _ w) (.cells #[.int .i64 kind, .int .i64 from_, .int .i64 to_, .int .i64 g, .int .i64 node, .int .i64 try_, .int .i64 low, .int .i64 code, .int .i64 ticket, .slice A told.length c, .slice B ops.length d] 31)) (.cells #[.int .i64 kind, .int .i64 from_, .int .i64 to_, .int .i64 g, .int .i64 node, .int .i64 try_, .int .i64 low, .int .i64 code, .int .i64 ticket, .slice A told.length c, .slice B ops.length d] 37)
  generalize (w.alloc (.cells #[.int .i64 kind, .int .i64 from_, .int .i64 to_, .int .i64 g, .int .i64 node, .int .i64 try_, .int .i64 low, .int .i64 code, .int .i64 ticket, .slice A told.length c, .slice B ops.length d] 31)).alloc (.cells #[.int .i64 kind, .int .i64 from_, .int .i64 to_, .int .i64 g, .int .i64 node, .int .i64 try_, .int .i64 low, .int .i64 code, .int .i64 ticket, .slice A told.length c, .slice B ops.length d] 37) = W at *
  obtain ⟨r0, r1, r2, r3, r4, r5, r6, r7, r8, r9, r10⟩ := msg_cells hb
  refine bodyPost_ret (v := .agg #[.int .i64 kind, .int .i64 from_, .int .i64 to_, .int .i64 g, .int .i64 node, .int .i64 try_, .int .i64 low, .int .i64 code, .int .i64 ticket, .slice A told.length c, .slice B ops.length d]) ?_ rfl ⟨rfl, hB⟩
  simp [results, Tryz.results10, go_sem, *]
theorem Plain_any (m : PMsg) (A : Option Addr) (c : Nat) (B : Option Addr) (d : Nat) (w : World) :
    Calls Tryz.prog 13 #[.agg (msgA m A c B d)] w fun e w' => e = .returned (.agg (msgA m A c B d)) ∧ Below w.heap.size w w' := by
  obtain ⟨kind, from_, to_, g, node, try_, low, code, ticket, told, ops⟩ := m
  simp only [msgA]
  go_enter Tryz.func13, Tryz.ntmps13
  go_wp2_with fail
  have hb := heap_alloc_new (w.alloc (.cells #[.int .i64 kind, .int .i64 from_, .int .i64 to_, .int .i64 g, .int .i64 node, .int .i64 try_, .int .i64 low, .int .i64 code, .int .i64 ticket, .slice A told.length c, .slice B ops.length d] 37)) (.cells #[.int .i64 kind, .int .i64 from_, .int .i64 to_, .int .i64 g, .int .i64 node, .int .i64 try_, .int .i64 low, .int .i64 code, .int .i64 ticket, .slice A told.length c, .slice B ops.length d] 31)
  rw [World.size_alloc] at hb
  have hB := below_alloc (below_alloc (Below.refl _ w) (.cells #[.int .i64 kind, .int .i64 from_, .int .i64 to_, .int .i64 g, .int .i64 node, .int .i64 try_, .int .i64 low, .int .i64 code, .int .i64 ticket, .slice A told.length c, .slice B ops.length d] 37)) (.cells #[.int .i64 kind, .int .i64 from_, .int .i64 to_, .int .i64 g, .int .i64 node, .int .i64 try_, .int .i64 low, .int .i64 code, .int .i64 ticket, .slice A told.length c, .slice B ops.length d] 31)
  generalize (w.alloc (.cells #[.int .i64 kind, .int .i64 from_, .int .i64 to_, .int .i64 g, .int .i64 node, .int .i64 try_, .int .i64 low, .int .i64 code, .int .i64 ticket, .slice A told.length c, .slice B ops.length d] 37)).alloc (.cells #[.int .i64 kind, .int .i64 from_, .int .i64 to_, .int .i64 g, .int .i64 node, .int .i64 try_, .int .i64 low, .int .i64 code, .int .i64 ticket, .slice A told.length c, .slice B ops.length d] 31) = W at *
  obtain ⟨r0, r1, r2, r3, r4, r5, r6, r7, r8, r9, r10⟩ := msg_cells hb
  refine bodyPost_ret (v := .agg #[.int .i64 kind, .int .i64 from_, .int .i64 to_, .int .i64 g, .int .i64 node, .int .i64 try_, .int .i64 low, .int .i64 code, .int .i64 ticket, .slice A told.length c, .slice B ops.length d]) ?_ rfl ⟨rfl, hB⟩
  simp [results, Tryz.results13, go_sem, *]
end Go.Proofs.YteeiacfddjhhkaaGreatDoor
namespace Go.Proofs.YteeiacfddjhhkaaGreatDoor
open Go.RowKit
set_option maxRecDepth 100000

set_option maxHeartbeats 2000000 in
theorem Cut_long (x : MV) (w : World) (h : InM w x) (ht : 12 < x.m.told.length) :
    Calls Tryz.prog 8 #[.agg (msgA x.m x.A x.c x.B x.d)] w fun e w' => ∃ B' d', e = .returned (.agg #[.int .i64 x.m.kind, .int .i64 x.m.from_, .int .i64 x.m.to_, .int .i64 x.m.g, .int .i64 x.m.node, .int .i64 x.m.try_, .int .i64 x.m.low, .int .i64 x.m.code, .int .i64 x.m.ticket, .slice x.A 12 x.c, .slice B' (cutOs x.m.ops).length d']) ∧ w'.ownsRow w.heap.size 108 4 (.slice B' (cutOs x.m.ops).length d') (cutOs x.m.ops).length (opsC (cutOs x.m.ops)) ∧ Below w.heap.size w w' := by
  have hH := Lib.hid h
  have hcl := h.c
  have hcm := h.cm
  clear h
  obtain ⟨m, A, c, B, d⟩ := x
  obtain ⟨kind, from_, to_, g, node, try_, low, code, ticket, told, ops⟩ := m
  simp only [msgA]
  simp only at ht hcl hcm
  unfold maxLen at hcm
  have dd : decide ((12 : Int) < told.length) = true := by simp; omega
  have j1 : (12 : Int) ≤ c := by omega
  have hB1 := Lib.hid (below_alloc (below_alloc (Below.refl _ w) (.cells #[.int .i64 kind, .int .i64 from_, .int .i64 to_, .int .i64 g, .int .i64 node, .int .i64 try_, .int .i64 low, .int .i64 code, .int .i64 ticket, .slice A 12 c, .slice B ops.length d] 31)) (.cells #[.int .i64 0, .int .i64 0, .int .i64 0, .int .i64 0, .int .i64 0, .int .i64 0, .int .i64 0, .int .i64 0, .int .i64 0, .slice none 0 0, .slice none 0 0] 31))
  have hb1 := block_below (below_alloc (Below.refl _ (w.alloc (.cells #[.int .i64 kind, .int .i64 from_, .int .i64 to_, .int .i64 g, .int .i64 node, .int .i64 try_, .int .i64 low, .int .i64 code, .int .i64 ticket, .slice A 12 c, .slice B ops.length d] 31))) (.cells #[.int .i64 0, .int .i64 0, .int .i64 0, .int .i64 0, .int .i64 0, .int .i64 0, .int .i64 0, .int .i64 0, .int .i64 0, .slice none 0 0, .slice none 0 0] 31)) (heap_alloc_new w (.cells #[.int .i64 kind, .int .i64 from_, .int .i64 to_, .int .i64 g, .int .i64 node, .int .i64 try_, .int .i64 low, .int .i64 code, .int .i64 ticket, .slice A 12 c, .slice B ops.length d] 31))
  have hb2 := heap_alloc_new (w.alloc (.cells #[.int .i64 kind, .int .i64 from_, .int .i64 to_, .int .i64 g, .int .i64 node, .int .i64 try_, .int .i64 low, .int .i64 code, .int .i64 ticket, .slice A 12 c, .slice B ops.length d] 31)) (.cells #[.int .i64 0, .int .i64 0, .int .i64 0, .int .i64 0, .int .i64 0, .int .i64 0, .int .i64 0, .int .i64 0, .int .i64 0, .slice none 0 0, .slice none 0 0] 31)
  rw [World.size_alloc] at hb2
  go_enter Tryz.func8, Tryz.ntmps8
  go_wp2_with fail
  generalize (w.alloc (.cells #[.int .i64 kind, .int .i64 from_, .int .i64 to_, .int .i64 g, .int .i64 node, .int .i64 try_, .int .i64 low, .int .i64 code, .int .i64 ticket, .slice A 12 c, .slice B ops.length d] 31)).alloc (.cells #[.int .i64 0, .int .i64 0, .int .i64 0, .int .i64 0, .int .i64 0, .int .i64 0, .int .i64 0, .int .i64 0, .int .i64 0, .slice none 0 0, .slice none 0 0] 31) = W1 at *
  refine (cutOps_any B d ops _ (hH.out.ops.below hB1.out) hH.out.keys hH.out.ol).mono ?_
  rintro e w2 ⟨B', d', rfl, hO_, hB_⟩
  have hO := Lib.hid (own_lower hO_ hB1.out.size)
  have hB2 := Lib.hid (bnext hB1.out hB_)
  have hc1 := block_below hB_ hb1
  have hc2 := block_below hB_ hb2
  have hC1 := Lib.hid hc1
  have hC2 := Lib.hid hc2
  obtain ⟨x0, x1, x2, x3, x4, x5, x6, x7, x8, x9, x10⟩ := msg_cells hc1
  obtain ⟨f0, f1, f2, f3, f4, f5, f6, f7, f8, f9, f10⟩ := msg_free hc1
  obtain ⟨zx0, zx1, zx2, zx3, zx4, zx5, zx6, zx7, zx8, zx9, zx10⟩ := msg_cells hc2
  obtain ⟨zf0, zf1, zf2, zf3, zf4, zf5, zf6, zf7, zf8, zf9, zf10⟩ := msg_free hc2
  clear hc1 hc2 hO_ hB_ hb1 hb2
  go_wp2_with fail
  have hK : Hid (Kept (fun k => w.heap.size = k ∨ w.heap.size + 1 = k) w2 ((((((((((((w2.setCell ⟨w.heap.size, 10, none⟩ (.slice B' (cutOs ops).length d')).setCell ⟨w.heap.size + 1, 0, none⟩ (.int .i64 kind)).setCell ⟨w.heap.size + 1, 1, none⟩ (.int .i64 from_)).setCell ⟨w.heap.size + 1, 2, none⟩ (.int .i64 to_)).setCell ⟨w.heap.size + 1, 3, none⟩ (.int .i64 g)).setCell ⟨w.heap.size + 1, 4, none⟩ (.int .i64 node)).setCell ⟨w.heap.size + 1, 5, none⟩ (.int .i64 try_)).setCell ⟨w.heap.size + 1, 6, none⟩ (.int .i64 low)).setCell ⟨w.heap.size + 1, 7, none⟩ (.int .i64 code)).setCell ⟨w.heap.size + 1, 8, none⟩ (.int .i64 ticket)).setCell ⟨w.heap.size + 1, 9, none⟩ (.slice A 12 c)).setCell ⟨w.heap.size + 1, 10, none⟩ (.slice B' (cutOs ops).length d'))) := Lib.hid (Kept.setCell (S := fun k => w.heap.size = k ∨ w.heap.size + 1 = k) (p := ⟨w.heap.size + 1, 10, none⟩) (Kept.setCell (S := fun k => w.heap.size = k ∨ w.heap.size + 1 = k) (p := ⟨w.heap.size + 1, 9, none⟩) (Kept.setCell (S := fun k => w.heap.size = k ∨ w.heap.size + 1 = k) (p := ⟨w.heap.size + 1, 8, none⟩) (Kept.setCell (S := fun k => w.heap.size = k ∨ w.heap.size + 1 = k) (p := ⟨w.heap.size + 1, 7, none⟩) (Kept.setCell (S := fun k => w.heap.size = k ∨ w.heap.size + 1 = k) (p := ⟨w.heap.size + 1, 6, none⟩) (Kept.setCell (S := fun k => w.heap.size = k ∨ w.heap.size + 1 = k) (p := ⟨w.heap.size + 1, 5, none⟩) (Kept.setCell (S := fun k => w.heap.size = k ∨ w.heap.size + 1 = k) (p := ⟨w.heap.size + 1, 4, none⟩) (Kept.setCell (S := fun k => w.heap.size = k ∨ w.heap.size + 1 = k) (p := ⟨w.heap.size + 1, 3, none⟩) (Kept.setCell (S := fun k => w.heap.size = k ∨ w.heap.size + 1 = k) (p := ⟨w.heap.size + 1, 2, none⟩) (Kept.setCell (S := fun k => w.heap.size = k ∨ w.heap.size + 1 = k) (p := ⟨w.heap.size + 1, 1, none⟩) (Kept.setCell (S := fun k => w.heap.size = k ∨ w.heap.size + 1 = k) (p := ⟨w.heap.size + 1, 0, none⟩) (Kept.setCell (S := fun k => w.heap.size = k ∨ w.heap.size + 1 = k) (p := ⟨w.heap.size, 10, none⟩) (Kept.refl _ w2) (.inl (.inl rfl)) (.slice B' (cutOs ops).length d')) (.inl (.inr rfl)) (.int .i64 kind)) (.inl (.inr rfl)) (.int .i64 from_)) (.inl (.inr rfl)) (.int .i64 to_)) (.inl (.inr rfl)) (.int .i64 g)) (.inl (.inr rfl)) (.int .i64 node)) (.inl (.inr rfl)) (.int .i64 try_)) (.inl (.inr rfl)) (.int .i64 low)) (.inl (.inr rfl)) (.int .i64 code)) (.inl (.inr rfl)) (.int .i64 ticket)) (.inl (.inr rfl)) (.slice A 12 c)) (.inl (.inr rfl)) (.slice B' (cutOs ops).length d'))
  have hc3 := (Below.heap_setCell w2 ⟨w.heap.size, 10, none⟩ (.slice B' (cutOs ops).length d') (w.heap.size + 1) (by show w.heap.size + 1 ≠ w.heap.size; omega)).trans hC2.out
  generalize w2.setCell ⟨w.heap.size, 10, none⟩ (.slice B' (cutOs ops).length d') = w3 at *
  have hs0 : (w3.setCell ⟨w.heap.size + 1, 0, none⟩ (.int .i64 kind)).heap[w.heap.size + 1]? = some (.cells #[.int .i64 kind, .int .i64 0, .int .i64 0, .int .i64 0, .int .i64 0, .int .i64 0, .int .i64 0, .int .i64 0, .int .i64 0, .slice none 0 0, .slice none 0 0] 31 (0, 0)) := block_setCell hc3 0 _
  generalize w3.setCell ⟨w.heap.size + 1, 0, none⟩ (.int .i64 kind) = w3_1 at *
  have hs1 : (w3_1.setCell ⟨w.heap.size + 1, 1, none⟩ (.int .i64 from_)).heap[w.heap.size + 1]? = some (.cells #[.int .i64 kind, .int .i64 from_, .int .i64 0, .int .i64 0, .int .i64 0, .int .i64 0, .int .i64 0, .int .i64 0, .int .i64 0, .slice none 0 0, .slice none 0 0] 31 (0, 0)) := block_setCell hs0 1 _
  generalize w3_1.setCell ⟨w.heap.size + 1, 1, none⟩ (.int .i64 from_) = w3_2 at *
  have hs2 : (w3_2.setCell ⟨w.heap.size + 1, 2, none⟩ (.int .i64 to_)).heap[w.heap.size + 1]? = some (.cells #[.int .i64 kind, .int .i64 from_, .int .i64 to_, .int .i64 0, .int .i64 0, .int .i64 0, .int .i64 0, .int .i64 0, .int .i64 0, .slice none 0 0, .slice none 0 0] 31 (0, 0)) := block_setCell hs1 2 _
  generalize w3_2.setCell ⟨w.heap.size + 1, 2, none⟩ (.int .i64 to_) = w3_3 at *
  have hs3 : (w3_3.setCell ⟨w.heap.size + 1, 3, none⟩ (.int .i64 g)).heap[w.heap.size + 1]? = some (.cells #[.int .i64 kind, .int .i64 from_, .int .i64 to_, .int .i64 g, .int .i64 0, .int .i64 0, .int .i64 0, .int .i64 0, .int .i64 0, .slice none 0 0, .slice none 0 0] 31 (0, 0)) := block_setCell hs2 3 _
  generalize w3_3.setCell ⟨w.heap.size + 1, 3, none⟩ (.int .i64 g) = w3_4 at *
  have hs4 : (w3_4.setCell ⟨w.heap.size + 1, 4, none⟩ (.int .i64 node)).heap[w.heap.size + 1]? = some (.cells #[.int .i64 kind, .int .i64 from_, .int .i64 to_, .int .i64 g, .int .i64 node, .int .i64 0, .int .i64 0, .int .i64 0, .int .i64 0, .slice none 0 0, .slice none 0 0] 31 (0, 0)) := block_setCell hs3 4 _
  generalize w3_4.setCell ⟨w.heap.size + 1, 4, none⟩ (.int .i64 node) = w3_5 at *
  have hs5 : (w3_5.setCell ⟨w.heap.size + 1, 5, none⟩ (.int .i64 try_)).heap[w.heap.size + 1]? = some (.cells #[.int .i64 kind, .int .i64 from_, .int .i64 to_, .int .i64 g, .int .i64 node, .int .i64 try_, .int .i64 0, .int .i64 0, .int .i64 0, .slice none 0 0, .slice none 0 0] 31 (0, 0)) := block_setCell hs4 5 _
  generalize w3_5.setCell ⟨w.heap.size + 1, 5, none⟩ (.int .i64 try_) = w3_6 at *
  have hs6 : (w3_6.setCell ⟨w.heap.size + 1, 6, none⟩ (.int .i64 low)).heap[w.heap.size + 1]? = some (.cells #[.int .i64 kind, .int .i64 from_, .int .i64 to_, .int .i64 g, .int .i64 node, .int .i64 try_, .int .i64 low, .int .i64 0, .int .i64 0, .slice none 0 0, .slice none 0 0] 31 (0, 0)) := block_setCell hs5 6 _
  generalize w3_6.setCell ⟨w.heap.size + 1, 6, none⟩ (.int .i64 low) = w3_7 at *
  have hs7 : (w3_7.setCell ⟨w.heap.size + 1, 7, none⟩ (.int .i64 code)).heap[w.heap.size + 1]? = some (.cells #[.int .i64 kind, .int .i64 from_, .int .i64 to_, .int .i64 g, .int .i64 node, .int .i64 try_, .int .i64 low, .int .i64 code, .int .i64 0, .slice none 0 0, .slice none 0 0] 31 (0, 0)) := block_setCell hs6 7 _
  generalize w3_7.setCell ⟨w.heap.size + 1, 7, none⟩ (.int .i64 code) = w3_8 at *
  have hs8 : (w3_8.setCell ⟨w.heap.size + 1, 8, none⟩ (.int .i64 ticket)).heap[w.heap.size + 1]? = some (.cells #[.int .i64 kind, .int .i64 from_, .int .i64 to_, .int .i64 g, .int .i64 node, .int .i64 try_, .int .i64 low, .int .i64 code, .int .i64 ticket, .slice none 0 0, .slice none 0 0] 31 (0, 0)) := block_setCell hs7 8 _
  generalize w3_8.setCell ⟨w.heap.size + 1, 8, none⟩ (.int .i64 ticket) = w3_9 at *
  have hs9 : (w3_9.setCell ⟨w.heap.size + 1, 9, none⟩ (.slice A 12 c)).heap[w.heap.size + 1]? = some (.cells #[.int .i64 kind, .int .i64 from_, .int .i64 to_, .int .i64 g, .int .i64 node, .int .i64 try_, .int .i64 low, .int .i64 code, .int .i64 ticket, .slice A 12 c, .slice none 0 0] 31 (0, 0)) := block_setCell hs8 9 _
  generalize w3_9.setCell ⟨w.heap.size + 1, 9, none⟩ (.slice A 12 c) = w3_10 at *
  have hs10 : (w3_10.setCell ⟨w.heap.size + 1, 10, none⟩ (.slice B' (cutOs ops).length d')).heap[w.heap.size + 1]? = some (.cells #[.int .i64 kind, .int .i64 from_, .int .i64 to_, .int .i64 g, .int .i64 node, .int .i64 try_, .int .i64 low, .int .i64 code, .int .i64 ticket, .slice A 12 c, .slice B' (cutOs ops).length d'] 31 (0, 0)) := block_setCell hs9 10 _
  generalize w3_10.setCell ⟨w.heap.size + 1, 10, none⟩ (.slice B' (cutOs ops).length d') = w3F at *
  have hWF := hs10
  clear hs0 hs1 hs2 hs3 hs4 hs5 hs6 hs7 hs8 hs9 hs10 x0 f0 zx0 zf0 x1 f1 zx1 zf1 x2 f2 zx2 zf2 x3 f3 zx3 zf3 x4 f4 zx4 zf4 x5 f5 zx5 zf5 x6 f6 zx6 zf6 x7 f7 zx7 zf7 x8 f8 zx8 zf8 x9 f9 zx9 zf9 x10 f10 zx10 zf10
  obtain ⟨rx0, rx1, rx2, rx3, rx4, rx5, rx6, rx7, rx8, rx9, rx10⟩ := msg_cells hWF
  obtain ⟨rf0, rf1, rf2, rf3, rf4, rf5, rf6, rf7, rf8, rf9, rf10⟩ := msg_free hWF
  have hO3 : Hid (w3F.ownsRow w.heap.size 108 4 (.slice B' (cutOs ops).length d') (cutOs ops).length (opsC (cutOs ops))) := Lib.hid (own_move hO.out fun q hq => by
    obtain ⟨cur, hcur⟩ := own_type hO.out hq
    refine hK.out.block q (lt_of_block hcur) ?_
    rintro (rfl | rfl)
    · rw [hC1.out] at hcur; simp at hcur
    · rw [hC2.out] at hcur; simp at hcur)
  have hB3 := Lib.hid (kept_below hB2.out hK.out (by rintro k (rfl | rfl) <;> omega))
  clear hWF
  refine bodyPost_ret (v := .agg #[.int .i64 kind, .int .i64 from_, .int .i64 to_, .int .i64 g, .int .i64 node, .int .i64 try_, .int .i64 low, .int .i64 code, .int .i64 ticket, .slice A 12 c, .slice B' (cutOs ops).length d']) ?_ rfl ⟨B', d', rfl, hO3.out, hB3.out⟩
  simp [results, Tryz.results8, go_sem, *]
set_option maxHeartbeats 2000000 in
theorem Cut_short (x : MV) (w : World) (h : InM w x) (ht : x.m.told.length ≤ 12) :
    Calls Tryz.prog 8 #[.agg (msgA x.m x.A x.c x.B x.d)] w fun e w' => ∃ B' d', e = .returned (.agg #[.int .i64 x.m.kind, .int .i64 x.m.from_, .int .i64 x.m.to_, .int .i64 x.m.g, .int .i64 x.m.node, .int .i64 x.m.try_, .int .i64 x.m.low, .int .i64 x.m.code, .int .i64 x.m.ticket, .slice x.A x.m.told.length x.c, .slice B' (cutOs x.m.ops).length d']) ∧ w'.ownsRow w.heap.size 108 4 (.slice B' (cutOs x.m.ops).length d') (cutOs x.m.ops).length (opsC (cutOs x.m.ops)) ∧ Below w.heap.size w w' := by
  have hH := Lib.hid h
  have hcl := h.c
  have hcm := h.cm
  clear h
  obtain ⟨m, A, c, B, d⟩ := x
  obtain ⟨kind, from_, to_, g, node, try_, low, code, ticket, told, ops⟩ := m
  simp only [msgA]
  simp only at ht hcl hcm
  unfold maxLen at hcm
  have dd : decide ((12 : Int) < told.length) = false := by simp; omega
  have hB1 := Lib.hid (below_alloc (below_alloc (Below.refl _ w) (.cells #[.int .i64 kind, .int .i64 from_, .int .i64 to_, .int .i64 g, .int .i64 node, .int .i64 try_, .int .i64 low, .int .i64 code, .int .i64 ticket, .slice A told.length c, .slice B ops.length d] 31)) (.cells #[.int .i64 0, .int .i64 0, .int .i64 0, .int .i64 0, .int .i64 0, .int .i64 0, .int .i64 0, .int .i64 0, .int .i64 0, .slice none 0 0, .slice none 0 0] 31))
  have hb1 := block_below (below_alloc (Below.refl _ (w.alloc (.cells #[.int .i64 kind, .int .i64 from_, .int .i64 to_, .int .i64 g, .int .i64 node, .int .i64 try_, .int .i64 low, .int .i64 code, .int .i64 ticket, .slice A told.length c, .slice B ops.length d] 31))) (.cells #[.int .i64 0, .int .i64 0, .int .i64 0, .int .i64 0, .int .i64 0, .int .i64 0, .int .i64 0, .int .i64 0, .int .i64 0, .slice none 0 0, .slice none 0 0] 31)) (heap_alloc_new w (.cells #[.int .i64 kind, .int .i64 from_, .int .i64 to_, .int .i64 g, .int .i64 node, .int .i64 try_, .int .i64 low, .int .i64 code, .int .i64 ticket, .slice A told.length c, .slice B ops.length d] 31))
  have hb2 := heap_alloc_new (w.alloc (.cells #[.int .i64 kind, .int .i64 from_, .int .i64 to_, .int .i64 g, .int .i64 node, .int .i64 try_, .int .i64 low, .int .i64 code, .int .i64 ticket, .slice A told.length c, .slice B ops.length d] 31)) (.cells #[.int .i64 0, .int .i64 0, .int .i64 0, .int .i64 0, .int .i64 0, .int .i64 0, .int .i64 0, .int .i64 0, .int .i64 0, .slice none 0 0, .slice none 0 0] 31)
  rw [World.size_alloc] at hb2
  go_enter Tryz.func8, Tryz.ntmps8
  go_wp2_with fail
  generalize (w.alloc (.cells #[.int .i64 kind, .int .i64 from_, .int .i64 to_, .int .i64 g, .int .i64 node, .int .i64 try_, .int .i64 low, .int .i64 code, .int .i64 ticket, .slice A told.length c, .slice B ops.length d] 31)).alloc (.cells #[.int .i64 0, .int .i64 0, .int .i64 0, .int .i64 0, .int .i64 0, .int .i64 0, .int .i64 0, .int .i64 0, .int .i64 0, .slice none 0 0, .slice none 0 0] 31) = W1 at *
  refine (cutOps_any B d ops _ (hH.out.ops.below hB1.out) hH.out.keys hH.out.ol).mono ?_
  rintro e w2 ⟨B', d', rfl, hO_, hB_⟩
  have hO := Lib.hid (own_lower hO_ hB1.out.size)
  have hB2 := Lib.hid (bnext hB1.out hB_)
  have hc1 := block_below hB_ hb1
  have hc2 := block_below hB_ hb2
  have hC1 := Lib.hid hc1
  have hC2 := Lib.hid hc2
  obtain ⟨x0, x1, x2, x3, x4, x5, x6, x7, x8, x9, x10⟩ := msg_cells hc1
  obtain ⟨f0, f1, f2, f3, f4, f5, f6, f7, f8, f9, f10⟩ := msg_free hc1
  obtain ⟨zx0, zx1, zx2, zx3, zx4, zx5, zx6, zx7, zx8, zx9, zx10⟩ := msg_cells hc2
  obtain ⟨zf0, zf1, zf2, zf3, zf4, zf5, zf6, zf7, zf8, zf9, zf10⟩ := msg_free hc2
  clear hc1 hc2 hO_ hB_ hb1 hb2
  go_wp2_with fail
  have hK : Hid (Kept (fun k => w.heap.size = k ∨ w.heap.size + 1 = k) w2 ((((((((((((w2.setCell ⟨w.heap.size, 10, none⟩ (.slice B' (cutOs ops).length d')).setCell ⟨w.heap.size + 1, 0, none⟩ (.int .i64 kind)).setCell ⟨w.heap.size + 1, 1, none⟩ (.int .i64 from_)).setCell ⟨w.heap.size + 1, 2, none⟩ (.int .i64 to_)).setCell ⟨w.heap.size + 1, 3, none⟩ (.int .i64 g)).setCell ⟨w.heap.size + 1, 4, none⟩ (.int .i64 node)).setCell ⟨w.heap.size + 1, 5, none⟩ (.int .i64 try_)).setCell ⟨w.heap.size + 1, 6, none⟩ (.int .i64 low)).setCell ⟨w.heap.size + 1, 7, none⟩ (.int .i64 code)).setCell ⟨w.heap.size + 1, 8, none⟩ (.int .i64 ticket)).setCell ⟨w.heap.size + 1, 9, none⟩ (.slice A told.length c)).setCell ⟨w.heap.size + 1, 10, none⟩ (.slice B' (cutOs ops).length d'))) := Lib.hid (Kept.setCell (S := fun k => w.heap.size = k ∨ w.heap.size + 1 = k) (p := ⟨w.heap.size + 1, 10, none⟩) (Kept.setCell (S := fun k => w.heap.size = k ∨ w.heap.size + 1 = k) (p := ⟨w.heap.size + 1, 9, none⟩) (Kept.setCell (S := fun k => w.heap.size = k ∨ w.heap.size + 1 = k) (p := ⟨w.heap.size + 1, 8, none⟩) (Kept.setCell (S := fun k => w.heap.size = k ∨ w.heap.size + 1 = k) (p := ⟨w.heap.size + 1, 7, none⟩) (Kept.setCell (S := fun k => w.heap.size = k ∨ w.heap.size + 1 = k) (p := ⟨w.heap.size + 1, 6, none⟩) (Kept.setCell (S := fun k => w.heap.size = k ∨ w.heap.size + 1 = k) (p := ⟨w.heap.size + 1, 5, none⟩) (Kept.setCell (S := fun k => w.heap.size = k ∨ w.heap.size + 1 = k) (p := ⟨w.heap.size + 1, 4, none⟩) (Kept.setCell (S := fun k => w.heap.size = k ∨ w.heap.size + 1 = k) (p := ⟨w.heap.size + 1, 3, none⟩) (Kept.setCell (S := fun k => w.heap.size = k ∨ w.heap.size + 1 = k) (p := ⟨w.heap.size + 1, 2, none⟩) (Kept.setCell (S := fun k => w.heap.size = k ∨ w.heap.size + 1 = k) (p := ⟨w.heap.size + 1, 1, none⟩) (Kept.setCell (S := fun k => w.heap.size = k ∨ w.heap.size + 1 = k) (p := ⟨w.heap.size + 1, 0, none⟩) (Kept.setCell (S := fun k => w.heap.size = k ∨ w.heap.size + 1 = k) (p := ⟨w.heap.size, 10, none⟩) (Kept.refl _ w2) (.inl (.inl rfl)) (.slice B' (cutOs ops).length d')) (.inl (.inr rfl)) (.int .i64 kind)) (.inl (.inr rfl)) (.int .i64 from_)) (.inl (.inr rfl)) (.int .i64 to_)) (.inl (.inr rfl)) (.int .i64 g)) (.inl (.inr rfl)) (.int .i64 node)) (.inl (.inr rfl)) (.int .i64 try_)) (.inl (.inr rfl)) (.int .i64 low)) (.inl (.inr rfl)) (.int .i64 code)) (.inl (.inr rfl)) (.int .i64 ticket)) (.inl (.inr rfl)) (.slice A told.length c)) (.inl (.inr rfl)) (.slice B' (cutOs ops).length d'))
  have hc3 := (Below.heap_setCell w2 ⟨w.heap.size, 10, none⟩ (.slice B' (cutOs ops).length d') (w.heap.size + 1) (by show w.heap.size + 1 ≠ w.heap.size; omega)).trans hC2.out
  generalize w2.setCell ⟨w.heap.size, 10, none⟩ (.slice B' (cutOs ops).length d') = w3 at *
  have hs0 : (w3.setCell ⟨w.heap.size + 1, 0, none⟩ (.int .i64 kind)).heap[w.heap.size + 1]? = some (.cells #[.int .i64 kind, .int .i64 0, .int .i64 0, .int .i64 0, .int .i64 0, .int .i64 0, .int .i64 0, .int .i64 0, .int .i64 0, .slice none 0 0, .slice none 0 0] 31 (0, 0)) := block_setCell hc3 0 _
  generalize w3.setCell ⟨w.heap.size + 1, 0, none⟩ (.int .i64 kind) = w3_1 at *
  have hs1 : (w3_1.setCell ⟨w.heap.size + 1, 1, none⟩ (.int .i64 from_)).heap[w.heap.size + 1]? = some (.cells #[.int .i64 kind, .int .i64 from_, .int .i64 0, .int .i64 0, .int .i64 0, .int .i64 0, .int .i64 0, .int .i64 0, .int .i64 0, .slice none 0 0, .slice none 0 0] 31 (0, 0)) := block_setCell hs0 1 _
  generalize w3_1.setCell ⟨w.heap.size + 1, 1, none⟩ (.int .i64 from_) = w3_2 at *
  have hs2 : (w3_2.setCell ⟨w.heap.size + 1, 2, none⟩ (.int .i64 to_)).heap[w.heap.size + 1]? = some (.cells #[.int .i64 kind, .int .i64 from_, .int .i64 to_, .int .i64 0, .int .i64 0, .int .i64 0, .int .i64 0, .int .i64 0, .int .i64 0, .slice none 0 0, .slice none 0 0] 31 (0, 0)) := block_setCell hs1 2 _
  generalize w3_2.setCell ⟨w.heap.size + 1, 2, none⟩ (.int .i64 to_) = w3_3 at *
  have hs3 : (w3_3.setCell ⟨w.heap.size + 1, 3, none⟩ (.int .i64 g)).heap[w.heap.size + 1]? = some (.cells #[.int .i64 kind, .int .i64 from_, .int .i64 to_, .int .i64 g, .int .i64 0, .int .i64 0, .int .i64 0, .int .i64 0, .int .i64 0, .slice none 0 0, .slice none 0 0] 31 (0, 0)) := block_setCell hs2 3 _
  generalize w3_3.setCell ⟨w.heap.size + 1, 3, none⟩ (.int .i64 g) = w3_4 at *
  have hs4 : (w3_4.setCell ⟨w.heap.size + 1, 4, none⟩ (.int .i64 node)).heap[w.heap.size + 1]? = some (.cells #[.int .i64 kind, .int .i64 from_, .int .i64 to_, .int .i64 g, .int .i64 node, .int .i64 0, .int .i64 0, .int .i64 0, .int .i64 0, .slice none 0 0, .slice none 0 0] 31 (0, 0)) := block_setCell hs3 4 _
  generalize w3_4.setCell ⟨w.heap.size + 1, 4, none⟩ (.int .i64 node) = w3_5 at *
  have hs5 : (w3_5.setCell ⟨w.heap.size + 1, 5, none⟩ (.int .i64 try_)).heap[w.heap.size + 1]? = some (.cells #[.int .i64 kind, .int .i64 from_, .int .i64 to_, .int .i64 g, .int .i64 node, .int .i64 try_, .int .i64 0, .int .i64 0, .int .i64 0, .slice none 0 0, .slice none 0 0] 31 (0, 0)) := block_setCell hs4 5 _
  generalize w3_5.setCell ⟨w.heap.size + 1, 5, none⟩ (.int .i64 try_) = w3_6 at *
  have hs6 : (w3_6.setCell ⟨w.heap.size + 1, 6, none⟩ (.int .i64 low)).heap[w.heap.size + 1]? = some (.cells #[.int .i64 kind, .int .i64 from_, .int .i64 to_, .int .i64 g, .int .i64 node, .int .i64 try_, .int .i64 low, .int .i64 0, .int .i64 0, .slice none 0 0, .slice none 0 0] 31 (0, 0)) := block_setCell hs5 6 _
  generalize w3_6.setCell ⟨w.heap.size + 1, 6, none⟩ (.int .i64 low) = w3_7 at *
  have hs7 : (w3_7.setCell ⟨w.heap.size + 1, 7, none⟩ (.int .i64 code)).heap[w.heap.size + 1]? = some (.cells #[.int .i64 kind, .int .i64 from_, .int .i64 to_, .int .i64 g, .int .i64 node, .int .i64 try_, .int .i64 low, .int .i64 code, .int .i64 0, .slice none 0 0, .slice none 0 0] 31 (0, 0)) := block_setCell hs6 7 _
  generalize w3_7.setCell ⟨w.heap.size + 1, 7, none⟩ (.int .i64 code) = w3_8 at *
  have hs8 : (w3_8.setCell ⟨w.heap.size + 1, 8, none⟩ (.int .i64 ticket)).heap[w.heap.size + 1]? = some (.cells #[.int .i64 kind, .int .i64 from_, .int .i64 to_, .int .i64 g, .int .i64 node, .int .i64 try_, .int .i64 low, .int .i64 code, .int .i64 ticket, .slice none 0 0, .slice none 0 0] 31 (0, 0)) := block_setCell hs7 8 _
  generalize w3_8.setCell ⟨w.heap.size + 1, 8, none⟩ (.int .i64 ticket) = w3_9 at *
  have hs9 : (w3_9.setCell ⟨w.heap.size + 1, 9, none⟩ (.slice A told.length c)).heap[w.heap.size + 1]? = some (.cells #[.int .i64 kind, .int .i64 from_, .int .i64 to_, .int .i64 g, .int .i64 node, .int .i64 try_, .int .i64 low, .int .i64 code, .int .i64 ticket, .slice A told.length c, .slice none 0 0] 31 (0, 0)) := block_setCell hs8 9 _
  generalize w3_9.setCell ⟨w.heap.size + 1, 9, none⟩ (.slice A told.length c) = w3_10 at *
  have hs10 : (w3_10.setCell ⟨w.heap.size + 1, 10, none⟩ (.slice B' (cutOs ops).length d')).heap[w.heap.size + 1]? = some (.cells #[.int .i64 kind, .int .i64 from_, .int .i64 to_, .int .i64 g, .int .i64 node, .int .i64 try_, .int .i64 low, .int .i64 code, .int .i64 ticket, .slice A told.length c, .slice B' (cutOs ops).length d'] 31 (0, 0)) := block_setCell hs9 10 _
  generalize w3_10.setCell ⟨w.heap.size + 1, 10, none⟩ (.slice B' (cutOs ops).length d') = w3F at *
  have hWF := hs10
  clear hs0 hs1 hs2 hs3 hs4 hs5 hs6 hs7 hs8 hs9 hs10 x0 f0 zx0 zf0 x1 f1 zx1 zf1 x2 f2 zx2 zf2 x3 f3 zx3 zf3 x4 f4 zx4 zf4 x5 f5 zx5 zf5 x6 f6 zx6 zf6 x7 f7 zx7 zf7 x8 f8 zx8 zf8 x9 f9 zx9 zf9 x10 f10 zx10 zf10
  obtain ⟨rx0, rx1, rx2, rx3, rx4, rx5, rx6, rx7, rx8, rx9, rx10⟩ := msg_cells hWF
  obtain ⟨rf0, rf1, rf2, rf3, rf4, rf5, rf6, rf7, rf8, rf9, rf10⟩ := msg_free hWF
  have hO3 : Hid (w3F.ownsRow w.heap.size 108 4 (.slice B' (cutOs ops).length d') (cutOs ops).length (opsC (cutOs ops))) := Lib.hid (own_move hO.out fun q hq => by
    obtain ⟨cur, hcur⟩ := own_type hO.out hq
    refine hK.out.block q (lt_of_block hcur) ?_
    rintro (rfl | rfl)
    · rw [hC1.out] at hcur; simp at hcur
    · rw [hC2.out] at hcur; simp at hcur)
  have hB3 := Lib.hid (kept_below hB2.out hK.out (by rintro k (rfl | rfl) <;> omega))
  clear hWF
  refine bodyPost_ret (v := .agg #[.int .i64 kind, .int .i64 from_, .int .i64 to_, .int .i64 g, .int .i64 node, .int .i64 try_, .int .i64 low, .int .i64 code, .int .i64 ticket, .slice A told.length c, .slice B' (cutOs ops).length d']) ?_ rfl ⟨B', d', rfl, hO3.out, hB3.out⟩
  simp [results, Tryz.results8, go_sem, *]
end Go.Proofs.YteeiacfddjhhkaaGreatDoor
namespace Go.Proofs.YteeiacfddjhhkaaGreatDoor
open Go.RowKit
set_option maxRecDepth 100000

theorem cutOs_mem {l : List POp} {o : POp} (h : o ∈ cutOs l) : ∃ o', o' ∈ l ∧ o = cutO o' := by
  obtain ⟨o', h1, h2⟩ := List.mem_map.1 h
  exact ⟨o', List.mem_of_mem_take h1, h2.symm⟩
theorem cut_frame {W w' : World} {x : MV} {B' : Option Addr} {d' base : Nat} (h : InM W x) (hB : Below W.heap.size W w') (hO : w'.ownsRow base 108 4 (.slice B' (cutOs x.m.ops).length d') (cutOs x.m.ops).length (opsC (cutOs x.m.ops))) :
    MsgF w' W.heap.size ⟨cutM x.m, x.A, x.c, B', d'⟩ := by
  have hf := RowF.of_own (N0 := W.heap.size) hO (by decide)
  have ht : RowAt W x.A (i64s (cutM x.m).told) := by
    show RowAt W x.A (i64s (x.m.told.take 12))
    rw [show i64s (x.m.told.take 12) = (i64s x.m.told).take 12 from by simp [i64s, List.map_take]]
    exact h.told.take 12
  have hfa := RowF.of_old ht hB
  refine ⟨⟨hfa.1, hf.1, ?_, ?_, ?_, ?_, ?_, h.nums⟩, hfa, hf⟩
  · show (x.m.told.take 12).length ≤ _
    simp; omega
  · have := cutOs_len x.m.ops
    show (cutOs x.m.ops).length ≤ _
    omega
  · intro o ho
    obtain ⟨o', _, rfl⟩ := cutOs_mem ho
    have := cutO_key o'
    omega
  · intro n hn
    exact h.toldok n (List.mem_of_mem_take hn)
  · intro o ho
    obtain ⟨o', h1, rfl⟩ := cutOs_mem ho
    exact cutO_ok (h.opsok o' h1)
theorem Cut_any (x : MV) (W w : World) (h : InM W x) (hB : Below W.heap.size W w) :
    Calls Tryz.prog 8 #[.agg (msgA x.m x.A x.c x.B x.d)] w fun e w' => ∃ B' d', e = .returned (.agg (msgA (cutM x.m) x.A x.c B' d')) ∧ MsgF w' W.heap.size ⟨cutM x.m, x.A, x.c, B', d'⟩ ∧ Below w.heap.size w w' := by
  by_cases ht : 12 < x.m.told.length
  · refine (Cut_long x w (h.below hB) ht).mono ?_
    rintro e w' ⟨B', d', rfl, hO, hb⟩
    refine ⟨B', d', ?_, cut_frame h (bnext hB hb) hO, hb⟩
    have e1 : (x.m.told.take 12).length = 12 := by simp; omega
    simp only [msgA, cutM, e1]
  · refine (Cut_short x w (h.below hB) (by omega)).mono ?_
    rintro e w' ⟨B', d', rfl, hO, hb⟩
    refine ⟨B', d', ?_, cut_frame h (bnext hB hb) hO, hb⟩
    have e1 : x.m.told.take 12 = x.m.told := List.take_of_length_le (by omega)
    simp only [msgA, cutM, e1]
end Go.Proofs.YteeiacfddjhhkaaGreatDoor
