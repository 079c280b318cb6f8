/- slices.Delete of one packet. net.gone: a packet is taken out of the net. net.Drop. A net's methods where there is no such packet. append to an owned row of which it is known that its cells stay where they were; Twice. -/
import Derived.Test.YteeiacfddjhhkaaGreatDoorNet3
import Derived.Lib.SliceRun
import Derived.Deep.RegionLaw
import Derived.Deep.RegionHeld3
namespace Go.Proofs.YteeiacfddjhhkaaGreatDoor
open Go.RowKit
set_option maxRecDepth 100000

theorem run_clear1 (w : World) (ty : TypeId) (b o c : Nat) (hc : ∀ j, j < 3 → (w.cell? ⟨b, o + j, none⟩).isSome = true) (hf : ∀ j, j < 3 → w.frozen? ⟨b, o + j, none⟩ = false) :
    (Builtin.clear_ #[69] ty #[.slice (some ⟨b, o, none⟩) 1 c]).run Tryz.prog w = .ok (.tuple #[]) (w.setCells b o [.slice none 0 0, .int .i64 0, .int .i64 0]) := by
  have hv : (zeroValue 77).run Tryz.prog w = .ok (.agg #[.slice none 0 0, .int .i64 0, .int .i64 0]) w := by kernel_rfl
  have hzc : (Builtin.zeroCells (Value.agg #[.slice none 0 0, .int .i64 0, .int .i64 0]).cells 1).toList = [.slice none 0 0, .int .i64 0, .int .i64 0] := by kernel_rfl
  have hst := run_storeCells_cells (P := Tryz.prog) b o [.slice none 0 0, .int .i64 0, .int .i64 0] 0 w (by simpa using hc) (by simpa using hf) (by intro v hv'; simp at hv'; rcases hv' with rfl | rfl | rfl <;> rfl)
  simp only [Nat.add_zero] at hst
  simp [Builtin.clear_, run_underlying Tryz.underlying69, hv, hzc, hst]
theorem wp_clear1 {w : World} {o : Oper} {a : Act} {K : Act → World → Prop} {Q : Exit → Act → World → Prop} (x : Operand)
    (ho : o.op = .call { callee := .builtin .clear, args := #[x], argTypes := #[69] }) (b off c : Nat) (hx : a.eval x = .slice (some ⟨b, off, none⟩) 1 c)
    (hc : ∀ j, j < 3 → (w.cell? ⟨b, off + j, none⟩).isSome = true) (hf : ∀ j, j < 3 → w.frozen? ⟨b, off + j, none⟩ = false)
    (h : K (a.put o.dst (.tuple #[])) (w.setCells b off [.slice none 0 0, .int .i64 0, .int .i64 0])) : o.wp Tryz.prog a w K Q := by
  unfold Oper.wp execOp
  simp only [ho, resolve, invoke, builtin, Sem.run_bind, Sem.run_pure, Result.andThen_ok, List.map_toArray, List.map_cons, List.map_nil, hx, run_clear1 w _ b off c hc hf]
  exact h
theorem setCells_far (g : Nat) : ∀ (vs : List Value) (o : Nat) (w : World) (k : Nat), k ≠ g → (w.setCells g o vs).heap[k]? = w.heap[k]?
  | [], _, _, _, _ => rfl
  | v :: r, o, w, k, hk => by
    show ((w.setCell ⟨g, o, none⟩ v).setCells g (o + 1) r).heap[k]? = _
    rw [setCells_far g r (o + 1) _ k hk, Below.heap_setCell _ _ _ _ (by simpa using hk)]
theorem setCells_block (g : Nat) (T : TypeId) (fr : Nat × Nat) : ∀ (vs : List Value) (o : Nat) (w : World) (cur : Array Value), w.heap[g]? = some (.cells cur T fr) → o + vs.length ≤ cur.size →
    ∃ cur', (w.setCells g o vs).heap[g]? = some (.cells cur' T fr) ∧ cur'.toList = cur.toList.take o ++ vs ++ cur.toList.drop (o + vs.length)
  | [], o, w, cur, h, _ => ⟨cur, h, by simp⟩
  | v :: r, o, w, cur, h, hl => by
    obtain ⟨cur', h1, h2⟩ := setCells_block g T fr r (o + 1) (w.setCell ⟨g, o, none⟩ v) (cur.setIfInBounds o v) (block_setCell h o v) (by simp at hl ⊢; omega)
    refine ⟨cur', h1, ?_⟩
    have ho : o < cur.toList.length := by simp at hl ⊢; omega
    rw [h2, Array.toList_setIfInBounds, List.take_set, List.drop_set, if_pos (by omega), List.take_succ_eq_append_getElem ho, List.set_append_right _ _ (by simp; omega)]
    have ho2 : o - min o cur.size = 0 := by simp at ho; omega
    simp [ho2, Nat.add_assoc, Nat.add_comm 1]
theorem Kept.setCells {S : Nat → Prop} {w : World} {g : Nat} (hg : S g ∨ w.heap.size ≤ g) : ∀ (vs : List Value) (o : Nat) {W : World}, Kept S w W → Kept S w (W.setCells g o vs)
  | [], _, _, h => h
  | v :: r, o, W, h => Kept.setCells hg r (o + 1) (Kept.setCell (p := ⟨g, o, none⟩) h hg v)
theorem Tryz.infoPk : (Tryz.prog.info? 77).map (fun i => (i.zero, i.size, i.bytes)) = some (some (.agg #[.slice none 0 0, .int .i64 0, .int .i64 0]), 3, 40) := by kernel_rfl
theorem del_own {base g c n i : Nat} {xs : List Value} {cur cur2 cur3 : Array Value} {w : World} {vs : List Value} {t : TypeId}
    (hl3 : cur3.toList = cur2.toList.take ((n - 1) * 3) ++ [.slice none 0 0, .int .i64 0, .int .i64 0] ++ vs) (hl2 : cur2.toList = cur.toList.take (i * 3) ++ xs.drop (i * 3 + 3) ++ cur.toList.drop (i * 3 + (xs.drop (i * 3 + 3)).length)) (htk : cur.toList.take (n * 3) = xs) (hxl : xs.length = n * 3)
    (hcs : cur.size = c * 3) (hi : i < n) (hnc : n ≤ c) (hbg : base ≤ g) (hcm : c ≤ maxLen) (hb : w.heap[g]? = some (.cells cur3 t (0, 0))) (hvs : vs = cur2.toList.drop ((n - 1) * 3 + [Value.slice none 0 0, .int .i64 0, .int .i64 0].length)) :
    w.ownsRow base t 3 (.slice (some ⟨g, 0, none⟩) (n - 1) c) (n - 1) (xs.take (i * 3) ++ xs.drop (i * 3 + 3)) := by
  have e1 : cur.toList.take (i * 3) = xs.take (i * 3) := by rw [← htk, List.take_take, Nat.min_eq_left (by omega)]
  have hlen : (xs.take (i * 3) ++ xs.drop (i * 3 + 3)).length = (n - 1) * 3 := by simp [hxl]; omega
  have hl2s : cur2.toList.length = c * 3 := by rw [hl2]; simp [hxl, hcs]; omega
  have e2 : cur2.toList.take ((n - 1) * 3) = xs.take (i * 3) ++ xs.drop (i * 3 + 3) := by
    rw [hl2, e1, List.take_append_of_le_length (by omega), List.take_of_length_le (by omega)]
  refine ⟨hlen, .inr ⟨g, c, cur3, rfl, hbg, hb, by omega, hcm, ?_, ?_⟩⟩
  · have h1 : cur3.toList.length = c * 3 := by
      rw [hl3, hvs, e2]
      simp only [List.length_append, List.length_drop, List.length_cons, List.length_nil] at hlen hl2s ⊢
      omega
    simpa using h1
  · rw [hl3, e2, List.append_assoc, List.take_append_of_le_length (by omega), List.take_of_length_le (by omega)]
set_option maxHeartbeats 1000000 in
theorem del_any (base g c n i : Nat) (xs : List Value) (w : World) (h : w.ownsRow base 77 3 (.slice (some ⟨g, 0, none⟩) n c) n xs) (h1 : ∀ u ∈ xs, u.oneCell' = true) (hi : i < n) (hn : n ≤ 100000) :
    Calls Tryz.prog 64 #[.slice (some ⟨g, 0, none⟩) n c, .int .i64 i, .int .i64 ((i : Int) + 1)] w fun e w' => e = .returned (.slice (some ⟨g, 0, none⟩) (n - 1) c) ∧ w'.ownsRow base 77 3 (.slice (some ⟨g, 0, none⟩) (n - 1) c) (n - 1) (xs.take (i * 3) ++ xs.drop (i * 3 + 3)) ∧ Kept (· = g) w w' := by
  have hO := Lib.hid h
  have hX := Lib.hid h1
  have hnc : n ≤ c := by
    rcases h.2 with ⟨h', _⟩ | ⟨g', cap', cur, h', _, _, hc, _⟩
    · simp at h'
    · simp at h'; omega
  have j1 : (i : Int) + 1 ≤ n := by omega
  have j2 : (i : Int) ≤ n := by omega
  have j3 : (n : Int) ≤ c := by omega
  have j5 : (i : Int) ≤ c := by omega
  have j6 : ¬ (c : Int) < i := by omega
  have j4 : ((i : Int) == i + 1) = false := by simp; omega
  have q0 := w.drew
  obtain ⟨i0, hi0, _, hsz, _⟩ := info_parts Tryz.infoPk
  have hcells : ∀ j, j < n * 3 → w.cell? ⟨g, j, none⟩ = xs[j]? := fun j hj => h.cellAt j hj
  have hfroz : ∀ j, w.frozen? ⟨g, j, none⟩ = false := fun j => h.frozenAt j
  have hxl : xs.length = n * 3 := h.1
  have hC := Lib.hid hcells
  have hF := Lib.hid hfroz
  have hL := Lib.hid hxl
  clear h h1 hcells hfroz q0 hxl
  go_enter Tryz.func64, Tryz.ntmps64
  go_wp2_with fail
  have news1 : Hid (∀ j u, (xs.drop (i * 3 + 3))[j]? = some u → w.drew.cell? ((⟨g, (i + 1) * 3, none⟩ : Addr).add j) = some u) := Lib.hid (fun j u hu => by
    rw [List.getElem?_drop] at hu
    have hlt := (List.getElem?_eq_some_iff.1 hu).1
    rw [hL.out] at hlt
    have e : (⟨g, (i + 1) * 3, none⟩ : Addr).add j = ⟨g, i * 3 + 3 + j, none⟩ := by unfold Addr.add; split <;> simp_all <;> omega
    rw [e]
    exact (hC.out _ (by omega)).trans hu)
  have spare : Hid (∀ j, j < (xs.drop (i * 3 + 3)).length → (w.drew.cell? ⟨g, 0 + i * 3 + j, none⟩).isSome = true ∧ w.drew.frozen? ⟨g, 0 + i * 3 + j, none⟩ = false) := Lib.hid (fun j hj => by
    rw [List.length_drop, hL.out] at hj
    refine ⟨?_, hF.out _⟩
    have := hC.out (0 + i * 3 + j) (by omega)
    show (w.cell? _).isSome = true
    rw [this, List.getElem?_eq_getElem (by rw [hL.out]; omega)]
    rfl)
  have k3 : ((i : Int) + 1).toNat = i + 1 := by omega
  have k4 : (0 : Int) ≤ (i : Int) + 1 := by omega
  have k2 : (i : Int) + 1 ≤ c := by omega
  by_cases hcc : i + 1 = c
  · have k6 : c ≤ i + 1 := by omega
    have k1 : c - (i + 1) = 0 := by omega
    have hccH := Lib.hid hcc
    clear hcc
    have news0 : Hid (∀ j u, (xs.drop (i * 3 + 3))[j]? = some u → w.drew.cell? ((⟨g, 0, none⟩ : Addr).add j) = some u) := Lib.hid (fun j u hu => by
      have hlt := (List.getElem?_eq_some_iff.1 hu).1
      rw [List.length_drop, hL.out] at hlt
      omega)
    go_region_law (refine step_append_room rfl (.tmp 22) (.tmp 25) 69 rfl 77 i0 3 Tryz.underlying69 hi0 hsz g 0 i c (by simp [Act.eval, Act.put, hccH.out]) ⟨g, 0, none⟩ (n - (i + 1)) 0 (xs.drop (i * 3 + 3)) (by simp [Act.eval, Act.put, hccH.out]) (by rw [List.length_drop, hL.out]; omega) news0.out (fun u hu => hX.out u (List.mem_of_mem_drop hu)) (by omega) spare.out ?_)
    try rw [Nat.zero_add]
    obtain ⟨cur, hcur, hbg, hcm, hcs, htk⟩ : ∃ cur : Array Value, w.drew.heap[g]? = some (.cells cur 77 (0, 0)) ∧ base ≤ g ∧ c ≤ maxLen ∧ cur.size = c * 3 ∧ cur.toList.take (n * 3) = xs := by
      rcases hO.out.2 with ⟨h', _⟩ | ⟨g', cap', cur, h', hb, hg, _, hm, hs, ht⟩
      · simp at h'
      · simp only [Value.slice.injEq, Option.some.injEq, Addr.mk.injEq, and_true, true_and] at h'
        obtain ⟨rfl, rfl⟩ := h'
        exact ⟨cur, hg, hb, hm, hs, ht⟩
    obtain ⟨cur2, hb2, hl2⟩ := setCells_block g 77 (0, 0) (xs.drop (i * 3 + 3)) (i * 3) w.drew cur hcur (by rw [List.length_drop, hL.out, hcs]; omega)
    have hs2 : cur2.size = c * 3 := by
      have := congrArg List.length hl2
      simp [hL.out] at this
      omega
    have hK1 : Hid (Kept (· = g) w (w.drew.setCells g (i * 3) (xs.drop (i * 3 + 3)))) := Lib.hid (Kept.setCells (S := (· = g)) (.inl rfl) _ _ (Kept.refl _ w).drew)
    have hB2 := Lib.hid hb2
    have hLL := Lib.hid hl2
    have hTK := Lib.hid htk
    clear hl2 hb2 hcur htk
    generalize w.drew.setCells g (i * 3) (xs.drop (i * 3 + 3)) = W1 at *
    have n2 : i + (n - (i + 1)) = n - 1 := by omega
    rw [n2]
    have n3 : (n : Int) ≤ c := by omega
    have n4 : ((n - 1 : Nat) : Int) ≤ n := by omega
    have n5 : n - (n - 1) = 1 := by omega
    have n6 : ¬ (c = n - 1) := by omega
    have n7 : ¬ (c ≤ n - 1) := by omega
    have hcc3 : Hid (∀ j, j < 3 → (W1.cell? ⟨g, (n - 1) * 3 + j, none⟩).isSome = true) := Lib.hid (fun j hj => by rw [block_cell hB2.out, Array.getElem?_eq_getElem (by omega)]; rfl)
    have hff3 : Hid (∀ j, j < 3 → W1.frozen? ⟨g, (n - 1) * 3 + j, none⟩ = false) := Lib.hid (fun j _ => block_free hB2.out _)
    have hcl3 := fun ty => run_clear1 W1 ty g ((n - 1) * 3) (c - (n - 1)) hcc3.out hff3.out
    go_wp2_with fail
    obtain ⟨cur3, hb3, hl3⟩ := setCells_block g 77 (0, 0) [.slice none 0 0, .int .i64 0, .int .i64 0] ((n - 1) * 3) W1 cur2 hB2.out (by simp; omega)
    have hK3 := Kept.setCells (S := (· = g)) (w := w) (g := g) (.inl rfl) [.slice none 0 0, .int .i64 0, .int .i64 0] ((n - 1) * 3) hK1.out
    have hcc9 := hccH.out
    go_ret
    exact ⟨by first | rfl | rw [hcc9], del_own hl3 hLL.out hTK.out hL.out (by omega) hi (by omega) hbg (by omega) hb3 rfl, hK3⟩
  · have k1 : ¬ (c - (i + 1) = 0) := by omega
    have k5 : i + 1 < c := by omega
    have k6 : ¬ (c ≤ i + 1) := by omega
    have k7 : ¬ (c = i + 1) := by omega
    go_region_law (refine step_append_room rfl (.tmp 22) (.tmp 25) 69 rfl 77 i0 3 Tryz.underlying69 hi0 hsz g 0 i c (by simp [Act.eval, Act.put]) ⟨g, (i + 1) * 3, none⟩ (n - (i + 1)) (c - (i + 1)) (xs.drop (i * 3 + 3)) (by simp [Act.eval, Act.put]) (by rw [List.length_drop, hL.out]; omega) news1.out (fun u hu => hX.out u (List.mem_of_mem_drop hu)) (by omega) spare.out ?_)
    try rw [Nat.zero_add]
    obtain ⟨cur, hcur, hbg, hcm, hcs, htk⟩ : ∃ cur : Array Value, w.drew.heap[g]? = some (.cells cur 77 (0, 0)) ∧ base ≤ g ∧ c ≤ maxLen ∧ cur.size = c * 3 ∧ cur.toList.take (n * 3) = xs := by
      rcases hO.out.2 with ⟨h', _⟩ | ⟨g', cap', cur, h', hb, hg, _, hm, hs, ht⟩
      · simp at h'
      · simp only [Value.slice.injEq, Option.some.injEq, Addr.mk.injEq, and_true, true_and] at h'
        obtain ⟨rfl, rfl⟩ := h'
        exact ⟨cur, hg, hb, hm, hs, ht⟩
    obtain ⟨cur2, hb2, hl2⟩ := setCells_block g 77 (0, 0) (xs.drop (i * 3 + 3)) (i * 3) w.drew cur hcur (by rw [List.length_drop, hL.out, hcs]; omega)
    have hs2 : cur2.size = c * 3 := by
      have := congrArg List.length hl2
      simp [hL.out] at this
      omega
    have hK1 : Hid (Kept (· = g) w (w.drew.setCells g (i * 3) (xs.drop (i * 3 + 3)))) := Lib.hid (Kept.setCells (S := (· = g)) (.inl rfl) _ _ (Kept.refl _ w).drew)
    have hB2 := Lib.hid hb2
    have hLL := Lib.hid hl2
    have hTK := Lib.hid htk
    clear hl2 hb2 hcur htk
    generalize w.drew.setCells g (i * 3) (xs.drop (i * 3 + 3)) = W1 at *
    have n2 : i + (n - (i + 1)) = n - 1 := by omega
    rw [n2]
    have n3 : (n : Int) ≤ c := by omega
    have n4 : ((n - 1 : Nat) : Int) ≤ n := by omega
    have n5 : n - (n - 1) = 1 := by omega
    have n6 : ¬ (c = n - 1) := by omega
    have n7 : ¬ (c ≤ n - 1) := by omega
    have hcc3 : Hid (∀ j, j < 3 → (W1.cell? ⟨g, (n - 1) * 3 + j, none⟩).isSome = true) := Lib.hid (fun j hj => by rw [block_cell hB2.out, Array.getElem?_eq_getElem (by omega)]; rfl)
    have hff3 : Hid (∀ j, j < 3 → W1.frozen? ⟨g, (n - 1) * 3 + j, none⟩ = false) := Lib.hid (fun j _ => block_free hB2.out _)
    have hcl3 := fun ty => run_clear1 W1 ty g ((n - 1) * 3) (c - (n - 1)) hcc3.out hff3.out
    go_wp2_with fail
    obtain ⟨cur3, hb3, hl3⟩ := setCells_block g 77 (0, 0) [.slice none 0 0, .int .i64 0, .int .i64 0] ((n - 1) * 3) W1 cur2 hB2.out (by simp; omega)
    have hK3 := Kept.setCells (S := (· = g)) (w := w) (g := g) (.inl rfl) [.slice none 0 0, .int .i64 0, .int .i64 0] ((n - 1) * 3) hK1.out
    go_ret
    exact ⟨rfl, del_own hl3 hLL.out hTK.out hL.out hcs hi hnc hbg hcm hb3 rfl, hK3⟩
end Go.Proofs.YteeiacfddjhhkaaGreatDoor
namespace Go.Proofs.YteeiacfddjhhkaaGreatDoor
open Go.RowKit
set_option maxRecDepth 100000
variable {cz : Cuts}

theorem pksC_one : ∀ (vs : List Value) (ks : List PK), (∀ v ∈ vs, v.oneCell' = true) → ∀ u ∈ pksC vs ks, u.oneCell' = true
  | [], _, _, u, h => by simp [pksC] at h
  | _ :: _, [], _, u, h => by simp [pksC] at h
  | v :: vs, k :: ks, h1, u, h => by
    rw [pksC_cons] at h
    simp only [List.mem_cons] at h
    rcases h with rfl | rfl | rfl | h
    · exact h1 _ (by simp)
    · rfl
    · rfl
    · exact pksC_one vs ks (fun v hv => h1 v (by simp [hv])) u h
theorem pksC_erase : ∀ (vs : List Value) (ks : List PK) (i : Nat), vs.length = ks.length → i < ks.length → (pksC vs ks).take (i * 3) ++ (pksC vs ks).drop (i * 3 + 3) = pksC (vs.eraseIdx i) (ks.eraseIdx i)
  | [], [], i, _, h => by simp at h
  | [], _ :: _, i, h, _ => by simp at h
  | _ :: _, [], i, h, _ => by simp at h
  | v :: vs, k :: ks, 0, _, _ => rfl
  | v :: vs, k :: ks, i + 1, hl, hi => by
    have h := pksC_erase vs ks i (by simpa using hl) (by simpa using hi)
    rw [List.eraseIdx_cons_succ, List.eraseIdx_cons_succ, pksC_cons, pksC_cons, ← h]
    have e : (i + 1) * 3 = i * 3 + 3 := by omega
    rw [e]
    rfl
theorem pksC_len : ∀ (vs : List Value) (ks : List PK), vs.length = ks.length → (pksC vs ks).length = ks.length * 3
  | [], [], _ => rfl
  | [], _ :: _, h => by simp at h
  | _ :: _, [], h => by simp at h
  | v :: vs, k :: ks, h => by
    rw [pksC_cons]
    have := pksC_len vs ks (by simpa using h)
    simp only [List.length_cons, this]
    omega
/-- Bytes of a packet stay where only rows of packets and nets change. -/
theorem OB.keptN {w w' : World} {p base : Nat} {v : Value} {b : List UInt8} (h : OB w base v b) (k : Kept (NS w p) w w') : OB w' base v b :=
  own_move h fun q hq => by
    rcases h.2 with ⟨rfl, _⟩ | ⟨g, cap, cur, rfl, _, hg, _⟩
    · simp [Value.ownBlock] at hq
    · simp [Value.ownBlock] at hq
      subst hq
      refine k.block _ (lt_of_block hg) ?_
      rintro ⟨_, cur', T, fr, hb, hT⟩
      rw [hg] at hb
      simp only [Option.some.injEq, Obj.cells.injEq] at hb
      rcases hT with rfl | rfl <;> simp at hb
/-- Parts of a net. -/
theorem NetAt.row {w : World} {p : Nat} {most : Int} {ks : List PK} (h : NetAt cz w p most ks) {i : Nat} {k : PK} (hk : ks[i]? = some k) :
    ∃ g c mb, ∃ mk : MapIs cz, ∃ vs, ∃ v, w.heap[p]? = some (.cells #[.int .i64 most, .slice (some ⟨g, 0, none⟩) ks.length c, .map (some mb)] 71 (0, 0)) ∧ w.heap[mb]? = some (.map mk.es mk.ck) ∧ mb + 1 = p ∧ w.ownsRow (p + 1) 77 3 (.slice (some ⟨g, 0, none⟩) ks.length c) ks.length (pksC vs ks) ∧ vs.length = ks.length ∧
      (∀ (i : Nat) (v : Value) (k : PK), vs[i]? = some v → ks[i]? = some k → OB w (p + 1) v k.b ∧ k.b.length ≤ 100000 ∧ 0 ≤ k.waits ∧ k.waits ≤ 1000) ∧ vs[i]? = some v ∧ OB w (p + 1) v k.b := by
  have hi : i < ks.length := (List.getElem?_eq_some_iff.1 hk).1
  obtain ⟨A, c, mb, mk, vs, h1, h2, h3, h4, h5, h6⟩ := h
  obtain ⟨g, cap, hA⟩ : ∃ g cap, Value.slice A ks.length c = .slice (some ⟨g, 0, none⟩) ks.length cap := by
    rcases h4.2 with ⟨_, h'⟩ | ⟨g', cap', cur, h', _⟩
    · omega
    · exact ⟨g', cap', h'⟩
  cases hA
  have hv : vs[i]? = some vs[i] := List.getElem?_eq_getElem (by omega)
  exact ⟨g, c, mb, mk, vs, vs[i], h1, h2, h3, h4, h5, h6, hv, (h6 i _ k hv hk).1⟩
theorem NetAt.one {w : World} {p : Nat} {vs : List Value} {ks : List PK} (h5 : vs.length = ks.length) (h6 : ∀ (i : Nat) (v : Value) (k : PK), vs[i]? = some v → ks[i]? = some k → OB w (p + 1) v k.b ∧ k.b.length ≤ 100000 ∧ 0 ≤ k.waits ∧ k.waits ≤ 1000) : ∀ v ∈ vs, v.oneCell' = true := by
  intro v hv
  obtain ⟨j, hj, rfl⟩ := List.getElem_of_mem hv
  obtain ⟨A, c, e⟩ := own_slice (h6 j _ (ks[j]'(by omega)) (List.getElem?_eq_getElem hj) (List.getElem?_eq_getElem (by omega))).1
  rw [e]
  rfl
theorem gone_cap (p : Nat) (most : Int) (ks : List PK) (i : Nat) (k : PK) (w : World) (h : NetAt cz w p most ks) (hk : ks[i]? = some k) (hl : ks.length ≤ 100000) :
    Calls Tryz.prog 39 #[.pointer (some ⟨p, 0, none⟩), .int .i64 i] w fun e w' => ∃ v, e = .returned (.agg #[v, .int .i64 k.site, .int .i64 k.waits]) ∧ OB w' (p + 1) v k.b ∧ NetAt cz w' p most (ks.eraseIdx i) ∧ Kept (NS w p) w w' ∧ ∃ g c, w'.cell? ⟨p, 1, none⟩ = some (.slice (some ⟨g, 0, none⟩) (ks.length - 1) c) ∧ ks.length ≤ c := by
  have hi : i < ks.length := (List.getElem?_eq_some_iff.1 hk).1
  obtain ⟨g, c, mb, mk, vs, v, h1, h2, h3, h4, h5, h6, hv, hov⟩ := h.row hk
  have hone := pksC_one vs ks (NetAt.one h5 h6)
  have x1 : w.cell? ⟨p, 1, none⟩ = some (.slice (some ⟨g, 0, none⟩) ks.length c) := by rw [block_cell h1]; rfl
  have y0 : w.cell? ⟨g, i * 3, none⟩ = some v := by rw [h4.cellAt _ (by omega)]; exact (pksC_get vs ks i _ k hv hk).1
  have y1 : w.cell? ⟨g, i * 3 + 1, none⟩ = some (.int .i64 k.site) := by rw [h4.cellAt _ (by omega)]; exact (pksC_get vs ks i _ k hv hk).2.1
  have y2 : w.cell? ⟨g, i * 3 + 2, none⟩ = some (.int .i64 k.waits) := by rw [h4.cellAt _ (by omega)]; exact (pksC_get vs ks i _ k hv hk).2.2
  obtain ⟨A, d, rfl⟩ := own_slice hov
  have hH := Lib.hid (And.intro h1 (And.intro h2 (And.intro h3 (And.intro h4 (And.intro h5 (And.intro h6 (And.intro hv (And.intro hov hone))))))))
  have hK := Lib.hid hk
  obtain ⟨bl, hbl⟩ : ∃ bl, bl = k.b.length := ⟨_, rfl⟩
  obtain ⟨ksite, hks⟩ : ∃ x, x = k.site := ⟨_, rfl⟩
  obtain ⟨kwaits, hkw⟩ : ∃ x, x = k.waits := ⟨_, rfl⟩
  rw [← hbl] at y0 hov hv
  rw [← hks] at y1
  rw [← hkw] at y2
  have hZ := below_alloc (Below.refl _ w) (.cells #[.slice none 0 0, .int .i64 0, .int .i64 0] 77)
  have x1' := cell_below hZ x1
  have y0' := cell_below hZ y0
  have y1' := cell_below hZ y1
  have y2' := cell_below hZ y2
  have hs4 := heap_alloc_new w (.cells #[.slice none 0 0, .int .i64 0, .int .i64 0] 77)
  have hs5 := heap_alloc_new (w.alloc (.cells #[.slice none 0 0, .int .i64 0, .int .i64 0] 77)) (.cells #[.slice A bl d, .int .i64 ksite, .int .i64 kwaits] 77)
  have hZ1 := below_alloc (Below.refl _ (w.alloc (.cells #[.slice none 0 0, .int .i64 0, .int .i64 0] 77))) (.cells #[.slice A bl d, .int .i64 ksite, .int .i64 kwaits] 77)
  have hZ2 := bnext hZ hZ1
  have x1'' := cell_below hZ2 x1
  have hs4' := block_below hZ1 hs4
  rw [World.size_alloc] at hs5
  have hB1 := Lib.hid hZ2
  have g1 := block_below hZ2 h1
  have g2 := block_below hZ2 h2
  have g4 := own_below h4 hZ2
  have g6 : ∀ (i : Nat) (v : Value) (k : PK), vs[i]? = some v → ks[i]? = some k → OB ((w.alloc (.cells #[.slice none 0 0, .int .i64 0, .int .i64 0] 77)).alloc (.cells #[.slice A bl d, .int .i64 ksite, .int .i64 kwaits] 77)) (p + 1) v k.b ∧ k.b.length ≤ 100000 ∧ 0 ≤ k.waits ∧ k.waits ≤ 1000 := fun j v k hv hk => ⟨(h6 j v k hv hk).1.below hZ2, (h6 j v k hv hk).2⟩
  have hH := Lib.hid (And.intro g1 (And.intro g2 (And.intro h3 (And.intro g4 (And.intro h5 (And.intro g6 (And.intro hv (And.intro (hov.below hZ2) (And.intro hone (And.intro hs4' (And.intro hs5 (And.intro hk (And.intro hbl (And.intro hks hkw))))))))))))))
  have hlt := h4.lt g rfl
  have hpl := lt_of_block h1
  clear h h1 h2 h3 h4 h5 h6 hv hov hone hk hZ hZ1 hZ2 x1 y0 y1 y2 g1 g2 g4 g6 hs4 hs5 hs4' hbl hks hkw
  go_enter Tryz.func39, Tryz.ntmps39
  go_wp2_with fail
  clear x1' y0' y1' y2' x1''
  generalize (w.alloc (.cells #[.slice none 0 0, .int .i64 0, .int .i64 0] 77)).alloc (.cells #[.slice A bl d, .int .i64 ksite, .int .i64 kwaits] 77) = w1 at *
  refine (del_any (p + 1) g c ks.length i (pksC vs ks) w1 hH.out.2.2.2.1 hH.out.2.2.2.2.2.2.2.2.1 hi hl).mono ?_
  rintro e w2 ⟨rfl, hO_, hKg_⟩
  have hO := Lib.hid hO_
  have hKg := Lib.hid hKg_
  have b1_ := (hKg_.block p (lt_of_block hH.out.1) (by omega)).trans hH.out.1
  have b4_ := (hKg_.block w.heap.size (lt_of_block hH.out.2.2.2.2.2.2.2.2.2.1) (by omega)).trans hH.out.2.2.2.2.2.2.2.2.2.1
  have b5_ := (hKg_.block (w.heap.size + 1) (lt_of_block hH.out.2.2.2.2.2.2.2.2.2.2.1) (by omega)).trans hH.out.2.2.2.2.2.2.2.2.2.2.1
  have b1 := Lib.hid b1_
  have b4 := Lib.hid b4_
  have b5 := Lib.hid b5_
  have x1 : w2.cell? ⟨p, 1, none⟩ = some (.slice (some ⟨g, 0, none⟩) ks.length c) := by rw [block_cell b1_]; rfl
  have f1 := block_free b1_ 1
  have c1_ := block_setCell b1_ 1 (.slice (some ⟨g, 0, none⟩) (ks.length - 1) c)
  have c4_ := (Below.heap_setCell w2 ⟨p, 1, none⟩ (.slice (some ⟨g, 0, none⟩) (ks.length - 1) c) w.heap.size (by show w.heap.size ≠ p; omega)).trans b4_
  have c5_ := (Below.heap_setCell w2 ⟨p, 1, none⟩ (.slice (some ⟨g, 0, none⟩) (ks.length - 1) c) (w.heap.size + 1) (by show w.heap.size + 1 ≠ p; omega)).trans b5_
  have y40 : (w2.setCell ⟨p, 1, none⟩ (.slice (some ⟨g, 0, none⟩) (ks.length - 1) c)).cell? ⟨w.heap.size, 0, none⟩ = some (.slice none 0 0) := by rw [block_cell c4_]; rfl
  have y41 : (w2.setCell ⟨p, 1, none⟩ (.slice (some ⟨g, 0, none⟩) (ks.length - 1) c)).cell? ⟨w.heap.size, 1, none⟩ = some (.int .i64 0) := by rw [block_cell c4_]; rfl
  have y42 : (w2.setCell ⟨p, 1, none⟩ (.slice (some ⟨g, 0, none⟩) (ks.length - 1) c)).cell? ⟨w.heap.size, 2, none⟩ = some (.int .i64 0) := by rw [block_cell c4_]; rfl
  have y50 : (w2.setCell ⟨p, 1, none⟩ (.slice (some ⟨g, 0, none⟩) (ks.length - 1) c)).cell? ⟨w.heap.size + 1, 0, none⟩ = some (.slice A bl d) := by rw [block_cell c5_]; rfl
  have y51 : (w2.setCell ⟨p, 1, none⟩ (.slice (some ⟨g, 0, none⟩) (ks.length - 1) c)).cell? ⟨w.heap.size + 1, 1, none⟩ = some (.int .i64 ksite) := by rw [block_cell c5_]; rfl
  have y52 : (w2.setCell ⟨p, 1, none⟩ (.slice (some ⟨g, 0, none⟩) (ks.length - 1) c)).cell? ⟨w.heap.size + 1, 2, none⟩ = some (.int .i64 kwaits) := by rw [block_cell c5_]; rfl
  have z40 := block_free c4_ 0
  have z41 := block_free c4_ 1
  have z42 := block_free c4_ 2
  have hc1 := Lib.hid c1_
  have hc4 := Lib.hid c4_
  clear hO_ hKg_ b1_ b4_ b5_ c1_ c4_ c5_
  go_wp2_with fail
  obtain ⟨h1, h2, h3, h4, h5, h6, hv, hov, hone, hs4, hs5, hk, hbl, hks, hkw⟩ := hH.out
  obtain ⟨cur, hcur⟩ : ∃ cur, w1.heap[g]? = some (.cells cur 77 (0, 0)) := by
    rcases h4.2 with ⟨h', _⟩ | ⟨g', cap', cur, h', _, hg', _⟩
    · simp at h'
    · simp only [Value.slice.injEq, Option.some.injEq, Addr.mk.injEq, and_true, true_and] at h'
      obtain ⟨rfl, rfl⟩ := h'
      exact ⟨cur, hg'⟩
  have kA : Kept (NS w p) w w1 := Kept.of_below _ hB1.out
  have kB : Kept (NS w1 p) w1 w2 := hKg.out.mono (fun k hk => by subst hk; exact ⟨by omega, cur, _, _, hcur, .inl rfl⟩)
  have n4 : NS w2 p w.heap.size := ⟨by omega, _, _, _, b4.out, .inl rfl⟩
  have kC1 := Kept.setCell (S := NS w2 p) (p := ⟨p, 1, none⟩) (Kept.refl _ w2) (.inl ⟨Nat.le_refl _, _, _, _, b1.out, .inr rfl⟩) (.slice (some ⟨g, 0, none⟩) (ks.length - 1) c)
  have kC2 := Kept.setCell (p := ⟨w.heap.size, 0, none⟩) kC1 (.inl n4) (.slice A bl d)
  have kC3 := Kept.setCell (p := ⟨w.heap.size, 1, none⟩) kC2 (.inl n4) (.int .i64 ksite)
  have kC := Kept.setCell (p := ⟨w.heap.size, 2, none⟩) kC3 (.inl n4) (.int .i64 kwaits)
  have hend : ∀ q, q ≠ w.heap.size → ((((w2.setCell ⟨p, 1, none⟩ (.slice (some ⟨g, 0, none⟩) (ks.length - 1) c)).setCell ⟨w.heap.size, 0, none⟩ (.slice A bl d)).setCell ⟨w.heap.size, 1, none⟩ (.int .i64 ksite)).setCell ⟨w.heap.size, 2, none⟩ (.int .i64 kwaits)).heap[q]? = (w2.setCell ⟨p, 1, none⟩ (.slice (some ⟨g, 0, none⟩) (ks.length - 1) c)).heap[q]? := by
    intro q hq
    rw [Below.heap_setCell _ _ _ _ (by exact hq), Below.heap_setCell _ _ _ _ (by exact hq), Below.heap_setCell _ _ _ _ (by exact hq)]
  have e4 := block_setCell (block_setCell (block_setCell hc4.out 0 (.slice A bl d)) 1 (.int .i64 ksite)) 2 (.int .i64 kwaits)
  have hW := KeptN_trans kB kC
  generalize (((w2.setCell ⟨p, 1, none⟩ (.slice (some ⟨g, 0, none⟩) (ks.length - 1) c)).setCell ⟨w.heap.size, 0, none⟩ (.slice A bl d)).setCell ⟨w.heap.size, 1, none⟩ (.int .i64 ksite)).setCell ⟨w.heap.size, 2, none⟩ (.int .i64 kwaits) = W4 at *
  have r0 : W4.cell? ⟨w.heap.size, 0, none⟩ = some (.slice A bl d) := by rw [block_cell e4]; rfl
  have r1 : W4.cell? ⟨w.heap.size, 1, none⟩ = some (.int .i64 ksite) := by rw [block_cell e4]; rfl
  have r2 : W4.cell? ⟨w.heap.size, 2, none⟩ = some (.int .i64 kwaits) := by rw [block_cell e4]; rfl
  have hfar : W4.heap[g]? = w2.heap[g]? := by rw [hend g (by omega), Below.heap_setCell _ _ _ _ (by show g ≠ p; omega)]
  have hfarm : W4.heap[mb]? = w1.heap[mb]? := by rw [hend mb (by omega), Below.heap_setCell _ _ _ _ (by show mb ≠ p; omega), hKg.out.block mb (lt_of_block h2) (by omega)]
  have hlen : (ks.eraseIdx i).length = ks.length - 1 := List.length_eraseIdx_of_lt hi
  refine bodyPost_ret (v := .agg #[.slice A bl d, .int .i64 ksite, .int .i64 kwaits]) ?_ rfl ⟨.slice A bl d, by rw [hks, hkw], hov.keptN hW, ⟨some ⟨g, 0, none⟩, c, mb, mk, vs.eraseIdx i, ?_, hfarm.trans h2, h3, ?_, ?_, ?_⟩, KeptN_trans kA hW, g, c, ?_, ?_⟩
  · simp [results, Tryz.results39, go_sem, *]
  · rw [hlen, hend p (by omega), hc1.out]; rfl
  · rw [hlen, ← pksC_erase vs ks i h5 hi]
    exact own_move hO.out fun q hq => by
      simp only [Value.ownBlock, Option.map_some, Option.some.injEq] at hq
      subst hq
      exact hfar
  · rw [hlen, List.length_eraseIdx_of_lt (by omega), h5]
  · intro j v k' hv' hk'
    rw [List.getElem?_eraseIdx] at hv' hk'
    split at hv'
    · rename_i hji
      rw [if_pos hji] at hk'
      obtain ⟨a1, a2⟩ := h6 j v k' hv' hk'
      exact ⟨a1.keptN hW, a2⟩
    · rename_i hji
      rw [if_neg hji] at hk'
      obtain ⟨a1, a2⟩ := h6 (j + 1) v k' hv' hk'
      exact ⟨a1.keptN hW, a2⟩
  · rw [World.cell?_of_block (hend p (by omega)), block_cell hc1.out]; rfl
  · rcases h4.2 with ⟨h', _⟩ | ⟨g', cap', cur, h', _, _, hc', _⟩
    · simp at h'
    · simp only [Value.slice.injEq, Option.some.injEq, Addr.mk.injEq, and_true, true_and] at h'
      obtain ⟨rfl, rfl⟩ := h'
      exact hc'
theorem gone_any (p : Nat) (most : Int) (ks : List PK) (i : Nat) (k : PK) (w : World) (h : NetAt cz w p most ks) (hk : ks[i]? = some k) (hl : ks.length ≤ 100000) :
    Calls Tryz.prog 39 #[.pointer (some ⟨p, 0, none⟩), .int .i64 i] w fun e w' => ∃ v, e = .returned (.agg #[v, .int .i64 k.site, .int .i64 k.waits]) ∧ OB w' (p + 1) v k.b ∧ NetAt cz w' p most (ks.eraseIdx i) ∧ Kept (NS w p) w w' :=
  (gone_cap p most ks i k w h hk hl).mono fun e w' ⟨v, h1, h2, h3, h4, _⟩ => ⟨v, h1, h2, h3, h4⟩
end Go.Proofs.YteeiacfddjhhkaaGreatDoor
namespace Go.Proofs.YteeiacfddjhhkaaGreatDoor
open Go.RowKit
set_option maxRecDepth 100000
variable {cz : Cuts}

theorem Drop_ok (p : Nat) (most : Int) (ks : List PK) (i : Nat) (k : PK) (w : World) (h : NetAt cz w p most ks) (hk : ks[i]? = some k) (hl : ks.length ≤ 100000) :
    Calls Tryz.prog 19 #[.pointer (some ⟨p, 0, none⟩), .int .i64 i] w fun e w' => e = .returned (.int .i64 0) ∧ NetAt cz w' p most (ks.eraseIdx i) ∧ Kept (NS w p) w w' := by
  have hi : i < ks.length := (List.getElem?_eq_some_iff.1 hk).1
  have hN := Lib.hid h
  have hK := Lib.hid hk
  clear h hk
  go_enter Tryz.func19, Tryz.ntmps19
  go_wp2_with fail
  refine (at_ok p most ks i _ hN.out hi).mono ?_
  rintro e w1 ⟨rfl, rfl⟩
  go_wp2_with fail
  refine (gone_any p most ks i k _ hN.out hK.out hl).mono ?_
  rintro e w1 ⟨v, rfl, _, h2_, h3_⟩
  have h2 := Lib.hid h2_
  have h3 := Lib.hid h3_
  clear h2_ h3_
  go_wp2_with fail
  go_ret
  exact ⟨rfl, h2.out, h3.out⟩
end Go.Proofs.YteeiacfddjhhkaaGreatDoor
namespace Go.Proofs.YteeiacfddjhhkaaGreatDoor
open Go.RowKit
set_option maxRecDepth 100000
variable {cz : Cuts}

theorem Drop_none (p : Nat) (most : Int) (ks : List PK) (i : Int) (w : World) (hG : GOk w) (h : NetAt cz w p most ks) (hi : i < 0 ∨ (ks.length : Int) ≤ i) : Calls Tryz.prog 19 #[.pointer (some ⟨p, 0, none⟩), .int .i64 i] w fun e w' => e = .returned (.int .i64 3) ∧ Below w.heap.size w w' := by
  have hGG := Lib.hid hG
  have hN := Lib.hid h
  have hI := Lib.hid hi
  clear hG h hi
  go_enter Tryz.func19, Tryz.ntmps19
  go_wp2_with fail
  refine (at_none p most ks i _ hN.out hI.out).mono ?_
  rintro e w1 ⟨T, b, rfl, hE_, hB_⟩
  have hE := Lib.hid hE_
  have hB := Lib.hid hB_
  clear hE_ hB_
  go_wp2_with fail
  have hX := hB.out
  refine (code_err _ 3 _ hE.out (hGG.out.below hX)).mono ?_
  rintro e w2 ⟨rfl, hB_⟩
  have hB2 := Lib.hid (bnext hX hB_)
  clear hB_
  go_wp2_with fail
  go_ret
  exact ⟨rfl, hB2.out⟩
theorem Twice_none (p : Nat) (most : Int) (ks : List PK) (i : Int) (w : World) (hG : GOk w) (h : NetAt cz w p most ks) (hi : i < 0 ∨ (ks.length : Int) ≤ i) : Calls Tryz.prog 20 #[.pointer (some ⟨p, 0, none⟩), .int .i64 i] w fun e w' => e = .returned (.int .i64 3) ∧ Below w.heap.size w w' := by
  have hGG := Lib.hid hG
  have hN := Lib.hid h
  have hI := Lib.hid hi
  clear hG h hi
  go_enter Tryz.func20, Tryz.ntmps20
  go_wp2_with fail
  refine (at_none p most ks i _ hN.out hI.out).mono ?_
  rintro e w1 ⟨T, b, rfl, hE_, hB_⟩
  have hE := Lib.hid hE_
  have hB := Lib.hid hB_
  clear hE_ hB_
  go_wp2_with fail
  go_quiet (fail)
  go_wp2_with fail
  have hX := below_drewN hB.out nq
  refine (code_err _ 3 _ (hE.out.later (below_drewN (Below.refl _ _) _)) (hGG.out.below hX)).mono ?_
  rintro e w2 ⟨rfl, hB_⟩
  have hB2 := Lib.hid (bnext hX hB_)
  clear hB_
  go_wp2_with fail
  go_ret
  exact ⟨rfl, hB2.out⟩
theorem Move_none (p : Nat) (most : Int) (ks : List PK) (i k : Int) (w : World) (hG : GOk w) (h : NetAt cz w p most ks) (hi : i < 0 ∨ (ks.length : Int) ≤ i) : Calls Tryz.prog 21 #[.pointer (some ⟨p, 0, none⟩), .int .i64 i, .int .i64 k] w fun e w' => e = .returned (.int .i64 3) ∧ Below w.heap.size w w' := by
  have hGG := Lib.hid hG
  have hN := Lib.hid h
  have hI := Lib.hid hi
  clear hG h hi
  go_enter Tryz.func21, Tryz.ntmps21
  go_wp2_with fail
  refine (at_none p most ks i _ hN.out hI.out).mono ?_
  rintro e w1 ⟨T, b, rfl, hE_, hB_⟩
  have hE := Lib.hid hE_
  have hB := Lib.hid hB_
  clear hE_ hB_
  go_wp2_with fail
  have hX := hB.out
  refine (code_err _ 3 _ hE.out (hGG.out.below hX)).mono ?_
  rintro e w2 ⟨rfl, hB_⟩
  have hB2 := Lib.hid (bnext hX hB_)
  clear hB_
  go_wp2_with fail
  go_ret
  exact ⟨rfl, hB2.out⟩
theorem Hold_none (p : Nat) (most : Int) (ks : List PK) (i k : Int) (w : World) (hG : GOk w) (h : NetAt cz w p most ks) (hi : i < 0 ∨ (ks.length : Int) ≤ i) : Calls Tryz.prog 22 #[.pointer (some ⟨p, 0, none⟩), .int .i64 i, .int .i64 k] w fun e w' => e = .returned (.int .i64 3) ∧ Below w.heap.size w w' := by
  have hGG := Lib.hid hG
  have hN := Lib.hid h
  have hI := Lib.hid hi
  clear hG h hi
  go_enter Tryz.func22, Tryz.ntmps22
  go_wp2_with fail
  refine (at_none p most ks i _ hN.out hI.out).mono ?_
  rintro e w1 ⟨T, b, rfl, hE_, hB_⟩
  have hE := Lib.hid hE_
  have hB := Lib.hid hB_
  clear hE_ hB_
  go_wp2_with fail
  have hX := hB.out
  refine (code_err _ 3 _ hE.out (hGG.out.below hX)).mono ?_
  rintro e w2 ⟨rfl, hB_⟩
  have hB2 := Lib.hid (bnext hX hB_)
  clear hB_
  go_wp2_with fail
  go_ret
  exact ⟨rfl, hB2.out⟩
theorem Spoil_none (p : Nat) (most : Int) (ks : List PK) (i k : Int) (w : World) (hG : GOk w) (h : NetAt cz w p most ks) (hi : i < 0 ∨ (ks.length : Int) ≤ i) : Calls Tryz.prog 23 #[.pointer (some ⟨p, 0, none⟩), .int .i64 i, .int .i64 k] w fun e w' => e = .returned (.int .i64 3) ∧ Below w.heap.size w w' := by
  have hGG := Lib.hid hG
  have hN := Lib.hid h
  have hI := Lib.hid hi
  clear hG h hi
  go_enter Tryz.func23, Tryz.ntmps23
  go_wp2_with fail
  refine (at_none p most ks i _ hN.out hI.out).mono ?_
  rintro e w1 ⟨T, b, rfl, hE_, hB_⟩
  have hE := Lib.hid hE_
  have hB := Lib.hid hB_
  clear hE_ hB_
  go_wp2_with fail
  have hX := hB.out
  refine (code_err _ 3 _ hE.out (hGG.out.below hX)).mono ?_
  rintro e w2 ⟨rfl, hB_⟩
  have hB2 := Lib.hid (bnext hX hB_)
  clear hB_
  go_wp2_with fail
  go_ret
  exact ⟨rfl, hB2.out⟩
theorem Packet_none (p : Nat) (most : Int) (ks : List PK) (i : Int) (w : World) (h : NetAt cz w p most ks) (hi : i < 0 ∨ (ks.length : Int) ≤ i) : Calls Tryz.prog 18 #[.pointer (some ⟨p, 0, none⟩), .int .i64 i] w fun e w' => e = .returned (.slice none 0 0) ∧ Below w.heap.size w w' := by
  have hN := Lib.hid h
  have hI := Lib.hid hi
  clear h hi
  go_enter Tryz.func18, Tryz.ntmps18
  go_wp2_with fail
  refine (at_none p most ks i _ hN.out hI.out).mono ?_
  rintro e w1 ⟨T, b, rfl, hE_, hB_⟩
  have hB := Lib.hid hB_
  clear hE_ hB_
  go_wp2_with fail
  go_ret
  exact ⟨rfl, hB.out⟩
theorem Waits_none (p : Nat) (most : Int) (ks : List PK) (i : Int) (w : World) (h : NetAt cz w p most ks) (hi : i < 0 ∨ (ks.length : Int) ≤ i) : Calls Tryz.prog 30 #[.pointer (some ⟨p, 0, none⟩), .int .i64 i] w fun e w' => e = .returned (.int .i64 0) ∧ Below w.heap.size w w' := by
  have hN := Lib.hid h
  have hI := Lib.hid hi
  clear h hi
  go_enter Tryz.func30, Tryz.ntmps30
  go_wp2_with fail
  refine (at_none p most ks i _ hN.out hI.out).mono ?_
  rintro e w1 ⟨T, b, rfl, hE_, hB_⟩
  have hB := Lib.hid hB_
  clear hE_ hB_
  go_wp2_with fail
  go_ret
  exact ⟨rfl, hB.out⟩
end Go.Proofs.YteeiacfddjhhkaaGreatDoor
namespace Go.Proofs.YteeiacfddjhhkaaGreatDoor
open Go.RowKit
set_option maxRecDepth 100000
variable {cz : Cuts}

theorem run_append_keep {P : Program} {w : World} (base : Nat) (t ty e : TypeId) (i : TypeInfo) (z : Value) (size bytes : Nat) (ht : P.underlying t = some (.slice e)) (hi : P.info? e = some i) (hz : i.zero = some z)
    (hsize : i.size = size) (hby : i.bytes = bytes) (hzs : z.cells.size = size) (hsz : 0 < size)
    (v : Value) (n : Nat) (xs : List Value) (hown : w.ownsRow base e size v n xs)
    (a : Addr) (m c : Nat) (news : List Value) (hl : news.length = m * size) (hnews : ∀ j u, news[j]? = some u → w.cell? (a.add j) = some u) (h1 : ∀ u ∈ news, u.oneCell' = true)
    (h63 : n + m ≤ maxLen) (hbytes : (n + m) * bytes ≤ 140737488355328) (hbase : base ≤ w.heap.size) :
    ∃ v' w', (Builtin.append_ #[t, t] ty #[v, .slice (some a) m c]).run P w = .ok v' w' ∧ w'.ownsRow base e size v' (n + m) (xs ++ news) ∧ w.grownBy w' v.ownBlock ∧
      (∀ g c', v = .slice (some ⟨g, 0, none⟩) n c' → ∀ j u, xs[j]? = some u → w'.cell? ⟨g, j, none⟩ = some u) ∧ (v'.ownBlock = v.ownBlock ∨ v'.ownBlock = some w.heap.size) := by
  by_cases hbig : ∃ g cap, v = .slice (some ⟨g, 0, none⟩) n cap ∧ ¬ (n + m ≤ cap)
  · obtain ⟨g, cap, rfl, hroom⟩ := hbig
    subst hsize
    subst hby
    have hsmall : n + m ≤ 9223372036854775807 := by simp only [maxLen] at h63; omega
    have hlen : (xs ++ news).length = (n + m) * i.size := by rw [List.length_append, hown.1, hl, Nat.add_mul]
    have holds : ∀ j u, xs[j]? = some u → w.cell? ((⟨g, 0, none⟩ : Addr).add j) = some u := hown.cells (g := g) rfl
    have hr := run_append_grow (P := P) w t ty e i z ht hi hz ⟨g, 0, none⟩ n cap xs hown.1 holds a m c news hl hnews (by omega) (by omega) (growslice_fits (by omega) hbytes)
    have hge := grownCap_ge w (n + m) cap e
    have hcm : grownCap w (n + m) cap e ≤ maxLen := grownCap_le_maxLen w (n + m) cap e h63
    refine ⟨_, _, hr, ⟨hlen, .inr ⟨w.heap.size, _, _, rfl, hbase, heap_alloc_new w.drew _, hge, hcm, ?_, ?_⟩⟩, ⟨rfl, rfl, rfl, by simp, fun k hk _ => heap_alloc_old w.drew _ hk⟩, ?_, Or.inr rfl⟩
    · simp only [Array.size_append, List.size_toArray, size_zeroCells, hzs, hown.1, hl, ← Nat.add_mul]
      congr 1
      omega
    · simp only [Array.toList_append, List.append_assoc]
      rw [← List.append_assoc, ← hlen]
      exact List.take_left
    · intro g' c' he j u hj
      simp only [Value.slice.injEq, Option.some.injEq, Addr.mk.injEq, and_true, true_and] at he
      obtain ⟨rfl, rfl⟩ := he
      have h0 := holds j u hj
      rw [add_plain] at h0
      exact (World.cell?_of_block (heap_alloc_old w.drew _ (World.block_lt_of_cell? w _ h0))).trans h0
  · obtain ⟨v', w', hr, h2, h3, h4, h5⟩ := run_append_own_at (P := P) w base t ty e i z size bytes ht hi hz hsize hby hzs hsz v n xs hown a m c news hl hnews h1 h63 hbytes hbase
    refine ⟨v', w', hr, h2, h3, ?_, h5⟩
    rintro g c' rfl j u hj
    have hroom : n + m ≤ c' := by
      by_cases h : n + m ≤ c'
      · exact h
      · exact absurd ⟨g, c', rfl, h⟩ hbig
    have hjl : j < xs.length := (List.getElem?_eq_some_iff.1 hj).1
    rcases h5 with h5 | h5
    · obtain ⟨A, d, rfl⟩ := own_slice h2
      rcases h2.2 with ⟨h', _⟩ | ⟨g', cap', cur, h', _⟩
      · rw [h'] at h5
        simp [Value.ownBlock] at h5
      · rw [h'] at h5 h2
        simp [Value.ownBlock] at h5
        subst h5
        rw [h2.cellAt j (by rw [Nat.add_mul, ← hown.1]; omega), List.getElem?_append_left hjl]
        exact hj
    · exfalso
      have hg2 : ∃ cur, w.heap[g]? = some (.cells cur e (0, 0)) ∧ n * size + news.length ≤ cur.size ∧ cur.size = c' * size := by
        rcases hown.2 with ⟨h', _⟩ | ⟨g', cap', cur, h', _, hg', _, _, hs, _⟩
        · simp at h'
        · simp only [Value.slice.injEq, Option.some.injEq, Addr.mk.injEq, and_true, true_and] at h'
          obtain ⟨rfl, rfl⟩ := h'
          exact ⟨cur, hg', by rw [hs, hl, ← Nat.add_mul]; exact Nat.mul_le_mul_right _ hroom, hs⟩
      obtain ⟨cur, hg', hfit, _⟩ := hg2
      have hr2 := run_append_room (P := P) w t ty e i ht hi g n c' cur hg' a m c news (by rw [hsize]; exact hl) hnews h1 hroom (by rw [hsize]; exact hfit)
      rw [hr] at hr2
      simp only [Result.ok.injEq] at hr2
      rw [hr2.1] at h5
      simp [Value.ownBlock] at h5
      have := lt_of_block hg'
      omega
/-- append(v, src...), v owned, src read, not nil. -/
theorem wp_append_keep {P : Program} {w : World} {o : Oper} {a : Act} {K : Act → World → Prop} {Q : Exit → Act → World → Prop} (s x : Operand) (t : TypeId)
    (ho : o.op = .call { callee := .builtin .append, args := #[s, x], argTypes := #[t, t] })
    (base : Nat) (e : TypeId) (z : Value) (size bytes : Nat) (ht : P.underlying t = some (.slice e)) (hinfo : (P.info? e).map (fun i => (i.zero, i.size, i.bytes)) = some (some z, size, bytes)) (hzs : z.cells.size = size) (hsz : 0 < size) (hb0 : 0 < bytes)
    (v : Value) (n : Nat) (xs : List Value) (hs : a.eval s = v) (hown : w.ownsRow base e size v n xs)
    (ad : Addr) (m c : Nat) (ns : List Value) (hx : a.eval x = .slice (some ad) m c) (hl : ns.length = m * size) (hrow : RowAt w (some ad) ns) (h1 : ∀ u ∈ ns, u.oneCell' = true)
    (hbytes : (n + m) * bytes ≤ 140737488355328) (hbase : base ≤ w.heap.size)
    (h : ∀ v' w', w'.ownsRow base e size v' (n + m) (xs ++ ns) → w.grownBy w' v.ownBlock → (∀ g c', v = .slice (some ⟨g, 0, none⟩) n c' → ∀ j u, xs[j]? = some u → w'.cell? ⟨g, j, none⟩ = some u) → (v'.ownBlock = v.ownBlock ∨ v'.ownBlock = some w.heap.size) → K (a.put o.dst v') w') :
    o.wp P a w K Q := by
  obtain ⟨i, hi, hz, hsize, hby⟩ := info_parts hinfo
  have h63 : n + m ≤ 140737488355328 := Nat.le_trans (Nat.le_mul_of_pos_right _ hb0) hbytes
  have hnews : ∀ j u, ns[j]? = some u → w.cell? (ad.add j) = some u := fun j u hu => by
    obtain ⟨ad', hA, hc⟩ := hrow j u hu
    cases hA
    exact hc
  obtain ⟨v', w', hr, h2, h3, h4, h5⟩ := run_append_keep (P := P) base t o.type e i z size bytes ht hi hz hsize hby hzs hsz v n xs hown ad m c ns hl hnews h1 (by simp only [maxLen]; omega) hbytes hbase
  unfold Oper.wp execOp
  simp only [ho, resolve, invoke, builtin, Sem.run_bind, Sem.run_pure, Result.andThen_ok, List.map_toArray, List.map_cons, List.map_nil, hs, hx, hr]
  exact h v' w' h2 h3 h4 h5
theorem pksC_push (vs : List Value) (ks : List PK) (v : Value) (k : PK) (h : vs.length = ks.length) : pksC (vs ++ [v]) (ks ++ [k]) = pksC vs ks ++ [v, .int .i64 k.site, .int .i64 k.waits] := by
  unfold pksC
  rw [List.zipWith_append h]
  simp [pkC]
theorem own_type {w : World} {base n size g : Nat} {e : TypeId} {v : Value} {xs : List Value} (h : w.ownsRow base e size v n xs) (hg : v.ownBlock = some g) : ∃ cur, w.heap[g]? = some (.cells cur e (0, 0)) := by
  rcases h.2 with ⟨rfl, _⟩ | ⟨g', cap', cur, rfl, _, hg', _⟩
  · simp [Value.ownBlock] at hg
  · simp [Value.ownBlock] at hg
    subst hg
    exact ⟨cur, hg'⟩
/-- A packet is appended. -/
theorem NetAt.pushed {w w3 w9 : World} {p : Nat} {most : Int} {ks : List PK} {A A9 : Option Addr} {c d9 mb : Nat} {mk : MapIs cz} {vs : List Value} {v1 : Value} {k : PK}
    (h1 : w.heap[p]? = some (.cells #[.int .i64 most, .slice A ks.length c, .map (some mb)] 71 (0, 0))) (h2 : w.heap[mb]? = some (.map mk.es mk.ck)) (h3 : mb + 1 = p) (h4 : w.ownsRow (p + 1) 77 3 (.slice A ks.length c) ks.length (pksC vs ks)) (h5 : vs.length = ks.length)
    (h6 : ∀ (i : Nat) (v : Value) (k : PK), vs[i]? = some v → ks[i]? = some k → OB w (p + 1) v k.b ∧ k.b.length ≤ 100000 ∧ 0 ≤ k.waits ∧ k.waits ≤ 1000)
    (hB : Below w.heap.size w w3) (hO : w9.ownsRow (p + 1) 77 3 (.slice A9 (ks.length + 1) d9) (ks.length + 1) (pksC vs ks ++ [v1, .int .i64 k.site, .int .i64 k.waits])) (hG : w3.grownBy w9 (Value.slice A ks.length c).ownBlock)
    (hv : OB w3 (p + 1) v1 k.b) (hbl : k.b.length ≤ 100000) (hw0 : 0 ≤ k.waits) (hw1 : k.waits ≤ 1000) :
    NetAt cz (w9.setCell ⟨p, 1, none⟩ (.slice A9 (ks.length + 1) d9)) p most (ks ++ [k]) ∧ Kept (NS w p) w (w9.setCell ⟨p, 1, none⟩ (.slice A9 (ks.length + 1) d9)) := by
  have kA : Kept (NS w p) w w3 := Kept.of_below _ hB
  have h43 := own_below h4 hB
  have kB : Kept (NS w3 p) w3 w9 := ⟨hG.os, hG.tape, hG.output, hG.size, fun q hq hn => hG.block q hq (fun e => by
    obtain ⟨cur, hc⟩ := own_type h43 e.symm
    have := own_ge h43 q e.symm
    exact hn ⟨by omega, cur, _, _, hc, .inl rfl⟩)⟩
  have h13 := block_below hB h1
  have hne : ∀ q, (Value.slice A ks.length c).ownBlock = some q → p + 1 ≤ q := fun q hq => own_ge h4 q hq
  have h19 : w9.heap[p]? = some (.cells #[.int .i64 most, .slice A ks.length c, .map (some mb)] 71 (0, 0)) := (hG.block p (lt_of_block h13) (fun e => by have := hne p e.symm; omega)).trans h13
  have h29 : w9.heap[mb]? = some (.map mk.es mk.ck) := (hG.block mb (lt_of_block (block_below hB h2)) (fun e => by have := hne mb e.symm; omega)).trans (block_below hB h2)
  have kC : Kept (NS w9 p) w9 (w9.setCell ⟨p, 1, none⟩ (.slice A9 (ks.length + 1) d9)) := Kept.setCell (p := ⟨p, 1, none⟩) (Kept.refl _ w9) (.inl ⟨Nat.le_refl _, _, _, _, h19, .inr rfl⟩) _
  have kBC := KeptN_trans kB kC
  have kAll := KeptN_trans kA kBC
  have hlen : (ks ++ [k]).length = ks.length + 1 := by simp
  refine ⟨⟨A9, d9, mb, mk, vs ++ [v1], ?_, ?_, h3, ?_, by simp [h5], ?_⟩, kAll⟩
  · rw [hlen]; exact block_setCell h19 1 _
  · rw [Below.heap_setCell _ _ _ _ (by show mb ≠ p; omega)]; exact h29
  · rw [hlen, pksC_push vs ks v1 k h5]
    exact own_move hO fun q hq => Below.heap_setCell _ _ _ _ (by have := own_ge hO q hq; show q ≠ p; omega)
  · intro j v k' hv' hk'
    by_cases hj : j < ks.length
    · rw [List.getElem?_append_left (by omega)] at hv' hk'
      obtain ⟨a1, a2⟩ := h6 j v k' hv' hk'
      exact ⟨a1.keptN kAll, a2⟩
    · rw [List.getElem?_append_right (by omega)] at hv' hk'
      obtain ⟨m, hm⟩ : ∃ m, j = ks.length + m := ⟨j - ks.length, by omega⟩
      subst hm
      have e1 : ks.length + m - vs.length = m := by omega
      have e2 : ks.length + m - ks.length = m := by omega
      rw [e1] at hv'
      rw [e2] at hk'
      cases m with
      | zero =>
        simp at hv' hk'
        subst hv' hk'
        exact ⟨hv.keptN kBC, hbl, hw0, hw1⟩
      | succ m => simp at hv'
end Go.Proofs.YteeiacfddjhhkaaGreatDoor
