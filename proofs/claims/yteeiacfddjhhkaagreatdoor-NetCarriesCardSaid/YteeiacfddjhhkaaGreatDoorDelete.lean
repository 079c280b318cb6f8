/- slices.Delete of one packet. -/
import Derived.Test.YteeiacfddjhhkaaGreatDoorNet3
import Derived.Lib.SliceRun
import Derived.Deep.RegionLaw
namespace Go.Proofs.YteeiacfddjhhkaaGreatDoor
open Go.RowKit
set_option maxRecDepth 100000

theorem run_clear1 (w : World) (ty : TypeId) (b o c : Nat) (hc : ∀ j, j < 3 → (w.cell? ⟨b, o + j, none⟩).isSome = true) (hf : ∀ j, j < 3 → w.frozen? ⟨b, o + j, none⟩ = false) :
    (Builtin.clear_ #[69] ty #[.slice (some ⟨b, o, none⟩) 1 c]).run Tryz.prog w = .ok (.tuple #[]) (w.setCells b o [.slice none 0 0, .int .i64 0, .int .i64 0]) := by
  have hv : (zeroValue 77).run Tryz.prog w = .ok (.agg #[.slice none 0 0, .int .i64 0, .int .i64 0]) w := by kernel_rfl
  have hzc : (Builtin.zeroCells (Value.agg #[.slice none 0 0, .int .i64 0, .int .i64 0]).cells 1).toList = [.slice none 0 0, .int .i64 0, .int .i64 0] := by kernel_rfl
  have hst := run_storeCells_cells (P := Tryz.prog) b o [.slice none 0 0, .int .i64 0, .int .i64 0] 0 w (by simpa using hc) (by simpa using hf) (by intro v hv'; simp at hv'; rcases hv' with rfl | rfl | rfl <;> rfl)
  simp only [Nat.add_zero] at hst
  simp [Builtin.clear_, run_underlying Tryz.underlying69, hv, hzc, hst]
theorem wp_clear1 {w : World} {o : Oper} {a : Act} {K : Act → World → Prop} {Q : Exit → Act → World → Prop} (x : Operand)
    (ho : o.op = .call { callee := .builtin .clear, args := #[x], argTypes := #[69] }) (b off c : Nat) (hx : a.eval x = .slice (some ⟨b, off, none⟩) 1 c)
    (hc : ∀ j, j < 3 → (w.cell? ⟨b, off + j, none⟩).isSome = true) (hf : ∀ j, j < 3 → w.frozen? ⟨b, off + j, none⟩ = false)
    (h : K (a.put o.dst (.tuple #[])) (w.setCells b off [.slice none 0 0, .int .i64 0, .int .i64 0])) : o.wp Tryz.prog a w K Q := by
  unfold Oper.wp execOp
  simp only [ho, resolve, invoke, builtin, Sem.run_bind, Sem.run_pure, Result.andThen_ok, List.map_toArray, List.map_cons, List.map_nil, hx, run_clear1 w _ b off c hc hf]
  exact h
theorem setCells_far (g : Nat) : ∀ (vs : List Value) (o : Nat) (w : World) (k : Nat), k ≠ g → (w.setCells g o vs).heap[k]? = w.heap[k]?
  | [], _, _, _, _ => rfl
  | v :: r, o, w, k, hk => by
    show ((w.setCell ⟨g, o, none⟩ v).setCells g (o + 1) r).heap[k]? = _
    rw [setCells_far g r (o + 1) _ k hk, Below.heap_setCell _ _ _ _ (by simpa using hk)]
theorem setCells_block (g : Nat) (T : TypeId) (fr : Nat × Nat) : ∀ (vs : List Value) (o : Nat) (w : World) (cur : Array Value), w.heap[g]? = some (.cells cur T fr) → o + vs.length ≤ cur.size →
    ∃ cur', (w.setCells g o vs).heap[g]? = some (.cells cur' T fr) ∧ cur'.toList = cur.toList.take o ++ vs ++ cur.toList.drop (o + vs.length)
  | [], o, w, cur, h, _ => ⟨cur, h, by simp⟩
  | v :: r, o, w, cur, h, hl => by
    obtain ⟨cur', h1, h2⟩ := setCells_block g T fr r (o + 1) (w.setCell ⟨g, o, none⟩ v) (cur.setIfInBounds o v) (block_setCell h o v) (by simp at hl ⊢; omega)
    refine ⟨cur', h1, ?_⟩
    have ho : o < cur.toList.length := by simp at hl ⊢; omega
    rw [h2, Array.toList_setIfInBounds, List.take_set, List.drop_set, if_pos (by omega), List.take_succ_eq_append_getElem ho, List.set_append_right _ _ (by simp; omega)]
    have ho2 : o - min o cur.size = 0 := by simp at ho; omega
    simp [ho2, Nat.add_assoc, Nat.add_comm 1]
theorem Kept.setCells {S : Nat → Prop} {w : World} {g : Nat} (hg : S g ∨ w.heap.size ≤ g) : ∀ (vs : List Value) (o : Nat) {W : World}, Kept S w W → Kept S w (W.setCells g o vs)
  | [], _, _, h => h
  | v :: r, o, W, h => Kept.setCells hg r (o + 1) (Kept.setCell (p := ⟨g, o, none⟩) h hg v)
theorem Tryz.infoPk : (Tryz.prog.info? 77).map (fun i => (i.zero, i.size, i.bytes)) = some (some (.agg #[.slice none 0 0, .int .i64 0, .int .i64 0]), 3, 40) := by kernel_rfl
theorem del_own {base g c n i : Nat} {xs : List Value} {cur cur2 cur3 : Array Value} {w : World} {vs : List Value} {t : TypeId}
    (hl3 : cur3.toList = cur2.toList.take ((n - 1) * 3) ++ [.slice none 0 0, .int .i64 0, .int .i64 0] ++ vs) (hl2 : cur2.toList = cur.toList.take (i * 3) ++ xs.drop (i * 3 + 3) ++ cur.toList.drop (i * 3 + (xs.drop (i * 3 + 3)).length)) (htk : cur.toList.take (n * 3) = xs) (hxl : xs.length = n * 3)
    (hcs : cur.size = c * 3) (hi : i < n) (hnc : n ≤ c) (hbg : base ≤ g) (hcm : c ≤ maxLen) (hb : w.heap[g]? = some (.cells cur3 t (0, 0))) (hvs : vs = cur2.toList.drop ((n - 1) * 3 + [Value.slice none 0 0, .int .i64 0, .int .i64 0].length)) :
    w.ownsRow base t 3 (.slice (some ⟨g, 0, none⟩) (n - 1) c) (n - 1) (xs.take (i * 3) ++ xs.drop (i * 3 + 3)) := by
  have e1 : cur.toList.take (i * 3) = xs.take (i * 3) := by rw [← htk, List.take_take, Nat.min_eq_left (by omega)]
  have hlen : (xs.take (i * 3) ++ xs.drop (i * 3 + 3)).length = (n - 1) * 3 := by simp [hxl]; omega
  have hl2s : cur2.toList.length = c * 3 := by rw [hl2]; simp [hxl, hcs]; omega
  have e2 : cur2.toList.take ((n - 1) * 3) = xs.take (i * 3) ++ xs.drop (i * 3 + 3) := by
    rw [hl2, e1, List.take_append_of_le_length (by omega), List.take_of_length_le (by omega)]
  refine ⟨hlen, .inr ⟨g, c, cur3, rfl, hbg, hb, by omega, hcm, ?_, ?_⟩⟩
  · have h1 : cur3.toList.length = c * 3 := by
      rw [hl3, hvs, e2]
      simp only [List.length_append, List.length_drop, List.length_cons, List.length_nil] at hlen hl2s ⊢
      omega
    simpa using h1
  · rw [hl3, e2, List.append_assoc, List.take_append_of_le_length (by omega), List.take_of_length_le (by omega)]
set_option maxHeartbeats 1000000 in
theorem del_any (base g c n i : Nat) (xs : List Value) (w : World) (h : w.ownsRow base 77 3 (.slice (some ⟨g, 0, none⟩) n c) n xs) (h1 : ∀ u ∈ xs, u.oneCell' = true) (hi : i < n) (hn : n ≤ 100000) :
    Calls Tryz.prog 64 #[.slice (some ⟨g, 0, none⟩) n c, .int .i64 i, .int .i64 ((i : Int) + 1)] w fun e w' => e = .returned (.slice (some ⟨g, 0, none⟩) (n - 1) c) ∧ w'.ownsRow base 77 3 (.slice (some ⟨g, 0, none⟩) (n - 1) c) (n - 1) (xs.take (i * 3) ++ xs.drop (i * 3 + 3)) ∧ Kept (· = g) w w' := by
  have hO := Lib.hid h
  have hX := Lib.hid h1
  have hnc : n ≤ c := by
    rcases h.2 with ⟨h', _⟩ | ⟨g', cap', cur, h', _, _, hc, _⟩
    · simp at h'
    · simp at h'; omega
  have j1 : (i : Int) + 1 ≤ n := by omega
  have j2 : (i : Int) ≤ n := by omega
  have j3 : (n : Int) ≤ c := by omega
  have j5 : (i : Int) ≤ c := by omega
  have j6 : ¬ (c : Int) < i := by omega
  have j4 : ((i : Int) == i + 1) = false := by simp; omega
  have q0 := w.drew
  obtain ⟨i0, hi0, _, hsz, _⟩ := info_parts Tryz.infoPk
  have hcells : ∀ j, j < n * 3 → w.cell? ⟨g, j, none⟩ = xs[j]? := fun j hj => h.cellAt j hj
  have hfroz : ∀ j, w.frozen? ⟨g, j, none⟩ = false := fun j => h.frozenAt j
  have hxl : xs.length = n * 3 := h.1
  have hC := Lib.hid hcells
  have hF := Lib.hid hfroz
  have hL := Lib.hid hxl
  clear h h1 hcells hfroz q0 hxl
  go_enter Tryz.func64, Tryz.ntmps64
  go_wp2_with fail
  have news1 : Hid (∀ j u, (xs.drop (i * 3 + 3))[j]? = some u → w.drew.cell? ((⟨g, (i + 1) * 3, none⟩ : Addr).add j) = some u) := Lib.hid (fun j u hu => by
    rw [List.getElem?_drop] at hu
    have hlt := (List.getElem?_eq_some_iff.1 hu).1
    rw [hL.out] at hlt
    have e : (⟨g, (i + 1) * 3, none⟩ : Addr).add j = ⟨g, i * 3 + 3 + j, none⟩ := by unfold Addr.add; split <;> simp_all <;> omega
    rw [e]
    exact (hC.out _ (by omega)).trans hu)
  have spare : Hid (∀ j, j < (xs.drop (i * 3 + 3)).length → (w.drew.cell? ⟨g, 0 + i * 3 + j, none⟩).isSome = true ∧ w.drew.frozen? ⟨g, 0 + i * 3 + j, none⟩ = false) := Lib.hid (fun j hj => by
    rw [List.length_drop, hL.out] at hj
    refine ⟨?_, hF.out _⟩
    have := hC.out (0 + i * 3 + j) (by omega)
    show (w.cell? _).isSome = true
    rw [this, List.getElem?_eq_getElem (by rw [hL.out]; omega)]
    rfl)
  have k3 : ((i : Int) + 1).toNat = i + 1 := by omega
  have k4 : (0 : Int) ≤ (i : Int) + 1 := by omega
  have k2 : (i : Int) + 1 ≤ c := by omega
  by_cases hcc : i + 1 = c
  · have k6 : c ≤ i + 1 := by omega
    have k1 : c - (i + 1) = 0 := by omega
    have hccH := Lib.hid hcc
    clear hcc
    have news0 : Hid (∀ j u, (xs.drop (i * 3 + 3))[j]? = some u → w.drew.cell? ((⟨g, 0, none⟩ : Addr).add j) = some u) := Lib.hid (fun j u hu => by
      have hlt := (List.getElem?_eq_some_iff.1 hu).1
      rw [List.length_drop, hL.out] at hlt
      omega)
    go_region_law (refine step_append_room rfl (.tmp 22) (.tmp 25) 69 rfl 77 i0 3 Tryz.underlying69 hi0 hsz g 0 i c (by simp [Act.eval, Act.put, hccH.out]) ⟨g, 0, none⟩ (n - (i + 1)) 0 (xs.drop (i * 3 + 3)) (by simp [Act.eval, Act.put, hccH.out]) (by rw [List.length_drop, hL.out]; omega) news0.out (fun u hu => hX.out u (List.mem_of_mem_drop hu)) (by omega) spare.out ?_)
    try rw [Nat.zero_add]
    obtain ⟨cur, hcur, hbg, hcm, hcs, htk⟩ : ∃ cur : Array Value, w.drew.heap[g]? = some (.cells cur 77 (0, 0)) ∧ base ≤ g ∧ c ≤ maxLen ∧ cur.size = c * 3 ∧ cur.toList.take (n * 3) = xs := by
      rcases hO.out.2 with ⟨h', _⟩ | ⟨g', cap', cur, h', hb, hg, _, hm, hs, ht⟩
      · simp at h'
      · simp only [Value.slice.injEq, Option.some.injEq, Addr.mk.injEq, and_true, true_and] at h'
        obtain ⟨rfl, rfl⟩ := h'
        exact ⟨cur, hg, hb, hm, hs, ht⟩
    obtain ⟨cur2, hb2, hl2⟩ := setCells_block g 77 (0, 0) (xs.drop (i * 3 + 3)) (i * 3) w.drew cur hcur (by rw [List.length_drop, hL.out, hcs]; omega)
    have hs2 : cur2.size = c * 3 := by
      have := congrArg List.length hl2
      simp [hL.out] at this
      omega
    have hK1 : Hid (Kept (· = g) w (w.drew.setCells g (i * 3) (xs.drop (i * 3 + 3)))) := Lib.hid (Kept.setCells (S := (· = g)) (.inl rfl) _ _ (Kept.refl _ w).drew)
    have hB2 := Lib.hid hb2
    have hLL := Lib.hid hl2
    have hTK := Lib.hid htk
    clear hl2 hb2 hcur htk
    generalize w.drew.setCells g (i * 3) (xs.drop (i * 3 + 3)) = W1 at *
    have n2 : i + (n - (i + 1)) = n - 1 := by omega
    rw [n2]
    have n3 : (n : Int) ≤ c := by omega
    have n4 : ((n - 1 : Nat) : Int) ≤ n := by omega
    have n5 : n - (n - 1) = 1 := by omega
    have n6 : ¬ (c = n - 1) := by omega
    have n7 : ¬ (c ≤ n - 1) := by omega
    have hcc3 : Hid (∀ j, j < 3 → (W1.cell? ⟨g, (n - 1) * 3 + j, none⟩).isSome = true) := Lib.hid (fun j hj => by rw [block_cell hB2.out, Array.getElem?_eq_getElem (by omega)]; rfl)
    have hff3 : Hid (∀ j, j < 3 → W1.frozen? ⟨g, (n - 1) * 3 + j, none⟩ = false) := Lib.hid (fun j _ => block_free hB2.out _)
    have hcl3 := fun ty => run_clear1 W1 ty g ((n - 1) * 3) (c - (n - 1)) hcc3.out hff3.out
    go_wp2_with fail
    obtain ⟨cur3, hb3, hl3⟩ := setCells_block g 77 (0, 0) [.slice none 0 0, .int .i64 0, .int .i64 0] ((n - 1) * 3) W1 cur2 hB2.out (by simp; omega)
    have hK3 := Kept.setCells (S := (· = g)) (w := w) (g := g) (.inl rfl) [.slice none 0 0, .int .i64 0, .int .i64 0] ((n - 1) * 3) hK1.out
    have hcc9 := hccH.out
    go_ret
    exact ⟨by first | rfl | rw [hcc9], del_own hl3 hLL.out hTK.out hL.out (by omega) hi (by omega) hbg (by omega) hb3 rfl, hK3⟩
  · have k1 : ¬ (c - (i + 1) = 0) := by omega
    have k5 : i + 1 < c := by omega
    have k6 : ¬ (c ≤ i + 1) := by omega
    have k7 : ¬ (c = i + 1) := by omega
    go_region_law (refine step_append_room rfl (.tmp 22) (.tmp 25) 69 rfl 77 i0 3 Tryz.underlying69 hi0 hsz g 0 i c (by simp [Act.eval, Act.put]) ⟨g, (i + 1) * 3, none⟩ (n - (i + 1)) (c - (i + 1)) (xs.drop (i * 3 + 3)) (by simp [Act.eval, Act.put]) (by rw [List.length_drop, hL.out]; omega) news1.out (fun u hu => hX.out u (List.mem_of_mem_drop hu)) (by omega) spare.out ?_)
    try rw [Nat.zero_add]
    obtain ⟨cur, hcur, hbg, hcm, hcs, htk⟩ : ∃ cur : Array Value, w.drew.heap[g]? = some (.cells cur 77 (0, 0)) ∧ base ≤ g ∧ c ≤ maxLen ∧ cur.size = c * 3 ∧ cur.toList.take (n * 3) = xs := by
      rcases hO.out.2 with ⟨h', _⟩ | ⟨g', cap', cur, h', hb, hg, _, hm, hs, ht⟩
      · simp at h'
      · simp only [Value.slice.injEq, Option.some.injEq, Addr.mk.injEq, and_true, true_and] at h'
        obtain ⟨rfl, rfl⟩ := h'
        exact ⟨cur, hg, hb, hm, hs, ht⟩
    obtain ⟨cur2, hb2, hl2⟩ := setCells_block g 77 (0, 0) (xs.drop (i * 3 + 3)) (i * 3) w.drew cur hcur (by rw [List.length_drop, hL.out, hcs]; omega)
    have hs2 : cur2.size = c * 3 := by
      have := congrArg List.length hl2
      simp [hL.out] at this
      omega
    have hK1 : Hid (Kept (· = g) w (w.drew.setCells g (i * 3) (xs.drop (i * 3 + 3)))) := Lib.hid (Kept.setCells (S := (· = g)) (.inl rfl) _ _ (Kept.refl _ w).drew)
    have hB2 := Lib.hid hb2
    have hLL := Lib.hid hl2
    have hTK := Lib.hid htk
    clear hl2 hb2 hcur htk
    generalize w.drew.setCells g (i * 3) (xs.drop (i * 3 + 3)) = W1 at *
    have n2 : i + (n - (i + 1)) = n - 1 := by omega
    rw [n2]
    have n3 : (n : Int) ≤ c := by omega
    have n4 : ((n - 1 : Nat) : Int) ≤ n := by omega
    have n5 : n - (n - 1) = 1 := by omega
    have n6 : ¬ (c = n - 1) := by omega
    have n7 : ¬ (c ≤ n - 1) := by omega
    have hcc3 : Hid (∀ j, j < 3 → (W1.cell? ⟨g, (n - 1) * 3 + j, none⟩).isSome = true) := Lib.hid (fun j hj => by rw [block_cell hB2.out, Array.getElem?_eq_getElem (by omega)]; rfl)
    have hff3 : Hid (∀ j, j < 3 → W1.frozen? ⟨g, (n - 1) * 3 + j, none⟩ = false) := Lib.hid (fun j _ => block_free hB2.out _)
    have hcl3 := fun ty => run_clear1 W1 ty g ((n - 1) * 3) (c - (n - 1)) hcc3.out hff3.out
    go_wp2_with fail
    obtain ⟨cur3, hb3, hl3⟩ := setCells_block g 77 (0, 0) [.slice none 0 0, .int .i64 0, .int .i64 0] ((n - 1) * 3) W1 cur2 hB2.out (by simp; omega)
    have hK3 := Kept.setCells (S := (· = g)) (w := w) (g := g) (.inl rfl) [.slice none 0 0, .int .i64 0, .int .i64 0] ((n - 1) * 3) hK1.out
    go_ret
    exact ⟨rfl, del_own hl3 hLL.out hTK.out hL.out hcs hi hnc hbg hcm hb3 rfl, hK3⟩
end Go.Proofs.YteeiacfddjhhkaaGreatDoor
