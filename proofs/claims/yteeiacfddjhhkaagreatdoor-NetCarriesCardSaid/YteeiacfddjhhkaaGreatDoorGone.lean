/- net.gone: a packet is taken out of the net. -/
import Derived.Test.YteeiacfddjhhkaaGreatDoorDelete
namespace Go.Proofs.YteeiacfddjhhkaaGreatDoor
open Go.RowKit
set_option maxRecDepth 100000

theorem pksC_one : ∀ (vs : List Value) (ks : List PK), (∀ v ∈ vs, v.oneCell' = true) → ∀ u ∈ pksC vs ks, u.oneCell' = true
  | [], _, _, u, h => by simp [pksC] at h
  | _ :: _, [], _, u, h => by simp [pksC] at h
  | v :: vs, k :: ks, h1, u, h => by
    rw [pksC_cons] at h
    simp only [List.mem_cons] at h
    rcases h with rfl | rfl | rfl | h
    · exact h1 _ (by simp)
    · rfl
    · rfl
    · exact pksC_one vs ks (fun v hv => h1 v (by simp [hv])) u h
theorem pksC_erase : ∀ (vs : List Value) (ks : List PK) (i : Nat), vs.length = ks.length → i < ks.length → (pksC vs ks).take (i * 3) ++ (pksC vs ks).drop (i * 3 + 3) = pksC (vs.eraseIdx i) (ks.eraseIdx i)
  | [], [], i, _, h => by simp at h
  | [], _ :: _, i, h, _ => by simp at h
  | _ :: _, [], i, h, _ => by simp at h
  | v :: vs, k :: ks, 0, _, _ => rfl
  | v :: vs, k :: ks, i + 1, hl, hi => by
    have h := pksC_erase vs ks i (by simpa using hl) (by simpa using hi)
    rw [List.eraseIdx_cons_succ, List.eraseIdx_cons_succ, pksC_cons, pksC_cons, ← h]
    have e : (i + 1) * 3 = i * 3 + 3 := by omega
    rw [e]
    rfl
theorem pksC_len : ∀ (vs : List Value) (ks : List PK), vs.length = ks.length → (pksC vs ks).length = ks.length * 3
  | [], [], _ => rfl
  | [], _ :: _, h => by simp at h
  | _ :: _, [], h => by simp at h
  | v :: vs, k :: ks, h => by
    rw [pksC_cons]
    have := pksC_len vs ks (by simpa using h)
    simp only [List.length_cons, this]
    omega
/-- Bytes of a packet stay where only rows of packets and nets change. -/
theorem OB.keptN {w w' : World} {p base : Nat} {v : Value} {b : List UInt8} (h : OB w base v b) (k : Kept (NS w p) w w') : OB w' base v b :=
  own_move h fun q hq => by
    rcases h.2 with ⟨rfl, _⟩ | ⟨g, cap, cur, rfl, _, hg, _⟩
    · simp [Value.ownBlock] at hq
    · simp [Value.ownBlock] at hq
      subst hq
      refine k.block _ (lt_of_block hg) ?_
      rintro ⟨_, cur', T, fr, hb, hT⟩
      rw [hg] at hb
      simp only [Option.some.injEq, Obj.cells.injEq] at hb
      rcases hT with rfl | rfl <;> simp at hb
/-- Parts of a net. -/
theorem NetAt.row {w : World} {p : Nat} {most : Int} {ks : List PK} (h : NetAt w p most ks) {i : Nat} {k : PK} (hk : ks[i]? = some k) :
    ∃ g c mb mk vs, ∃ v, w.heap[p]? = some (.cells #[.int .i64 most, .slice (some ⟨g, 0, none⟩) ks.length c, .map (some mb)] 71 (0, 0)) ∧ w.heap[mb]? = some (.map #[] mk) ∧ mb < p ∧ w.ownsRow (p + 1) 77 3 (.slice (some ⟨g, 0, none⟩) ks.length c) ks.length (pksC vs ks) ∧ vs.length = ks.length ∧
      (∀ (i : Nat) (v : Value) (k : PK), vs[i]? = some v → ks[i]? = some k → OB w (p + 1) v k.b ∧ k.b.length ≤ 100000 ∧ 0 ≤ k.waits ∧ k.waits ≤ 1000) ∧ vs[i]? = some v ∧ OB w (p + 1) v k.b := by
  have hi : i < ks.length := (List.getElem?_eq_some_iff.1 hk).1
  obtain ⟨A, c, mb, mk, vs, h1, h2, h3, h4, h5, h6⟩ := h
  obtain ⟨g, cap, hA⟩ : ∃ g cap, Value.slice A ks.length c = .slice (some ⟨g, 0, none⟩) ks.length cap := by
    rcases h4.2 with ⟨_, h'⟩ | ⟨g', cap', cur, h', _⟩
    · omega
    · exact ⟨g', cap', h'⟩
  cases hA
  have hv : vs[i]? = some vs[i] := List.getElem?_eq_getElem (by omega)
  exact ⟨g, c, mb, mk, vs, vs[i], h1, h2, h3, h4, h5, h6, hv, (h6 i _ k hv hk).1⟩
theorem NetAt.one {w : World} {p : Nat} {vs : List Value} {ks : List PK} (h5 : vs.length = ks.length) (h6 : ∀ (i : Nat) (v : Value) (k : PK), vs[i]? = some v → ks[i]? = some k → OB w (p + 1) v k.b ∧ k.b.length ≤ 100000 ∧ 0 ≤ k.waits ∧ k.waits ≤ 1000) : ∀ v ∈ vs, v.oneCell' = true := by
  intro v hv
  obtain ⟨j, hj, rfl⟩ := List.getElem_of_mem hv
  obtain ⟨A, c, e⟩ := own_slice (h6 j _ (ks[j]'(by omega)) (List.getElem?_eq_getElem hj) (List.getElem?_eq_getElem (by omega))).1
  rw [e]
  rfl
theorem gone_cap (p : Nat) (most : Int) (ks : List PK) (i : Nat) (k : PK) (w : World) (h : NetAt w p most ks) (hk : ks[i]? = some k) (hl : ks.length ≤ 100000) :
    Calls Tryz.prog 39 #[.pointer (some ⟨p, 0, none⟩), .int .i64 i] w fun e w' => ∃ v, e = .returned (.agg #[v, .int .i64 k.site, .int .i64 k.waits]) ∧ OB w' (p + 1) v k.b ∧ NetAt w' p most (ks.eraseIdx i) ∧ Kept (NS w p) w w' ∧ ∃ g c, w'.cell? ⟨p, 1, none⟩ = some (.slice (some ⟨g, 0, none⟩) (ks.length - 1) c) ∧ ks.length ≤ c := by
  have hi : i < ks.length := (List.getElem?_eq_some_iff.1 hk).1
  obtain ⟨g, c, mb, mk, vs, v, h1, h2, h3, h4, h5, h6, hv, hov⟩ := h.row hk
  have hone := pksC_one vs ks (NetAt.one h5 h6)
  have x1 : w.cell? ⟨p, 1, none⟩ = some (.slice (some ⟨g, 0, none⟩) ks.length c) := by rw [block_cell h1]; rfl
  have y0 : w.cell? ⟨g, i * 3, none⟩ = some v := by rw [h4.cellAt _ (by omega)]; exact (pksC_get vs ks i _ k hv hk).1
  have y1 : w.cell? ⟨g, i * 3 + 1, none⟩ = some (.int .i64 k.site) := by rw [h4.cellAt _ (by omega)]; exact (pksC_get vs ks i _ k hv hk).2.1
  have y2 : w.cell? ⟨g, i * 3 + 2, none⟩ = some (.int .i64 k.waits) := by rw [h4.cellAt _ (by omega)]; exact (pksC_get vs ks i _ k hv hk).2.2
  obtain ⟨A, d, rfl⟩ := own_slice hov
  have hH := Lib.hid (And.intro h1 (And.intro h2 (And.intro h3 (And.intro h4 (And.intro h5 (And.intro h6 (And.intro hv (And.intro hov hone))))))))
  have hK := Lib.hid hk
  obtain ⟨bl, hbl⟩ : ∃ bl, bl = k.b.length := ⟨_, rfl⟩
  obtain ⟨ksite, hks⟩ : ∃ x, x = k.site := ⟨_, rfl⟩
  obtain ⟨kwaits, hkw⟩ : ∃ x, x = k.waits := ⟨_, rfl⟩
  rw [← hbl] at y0 hov hv
  rw [← hks] at y1
  rw [← hkw] at y2
  have hZ := below_alloc (Below.refl _ w) (.cells #[.slice none 0 0, .int .i64 0, .int .i64 0] 77)
  have x1' := cell_below hZ x1
  have y0' := cell_below hZ y0
  have y1' := cell_below hZ y1
  have y2' := cell_below hZ y2
  have hs4 := heap_alloc_new w (.cells #[.slice none 0 0, .int .i64 0, .int .i64 0] 77)
  have hs5 := heap_alloc_new (w.alloc (.cells #[.slice none 0 0, .int .i64 0, .int .i64 0] 77)) (.cells #[.slice A bl d, .int .i64 ksite, .int .i64 kwaits] 77)
  have hZ1 := below_alloc (Below.refl _ (w.alloc (.cells #[.slice none 0 0, .int .i64 0, .int .i64 0] 77))) (.cells #[.slice A bl d, .int .i64 ksite, .int .i64 kwaits] 77)
  have hZ2 := bnext hZ hZ1
  have x1'' := cell_below hZ2 x1
  have hs4' := block_below hZ1 hs4
  rw [World.size_alloc] at hs5
  have hB1 := Lib.hid hZ2
  have g1 := block_below hZ2 h1
  have g2 := block_below hZ2 h2
  have g4 := own_below h4 hZ2
  have g6 : ∀ (i : Nat) (v : Value) (k : PK), vs[i]? = some v → ks[i]? = some k → OB ((w.alloc (.cells #[.slice none 0 0, .int .i64 0, .int .i64 0] 77)).alloc (.cells #[.slice A bl d, .int .i64 ksite, .int .i64 kwaits] 77)) (p + 1) v k.b ∧ k.b.length ≤ 100000 ∧ 0 ≤ k.waits ∧ k.waits ≤ 1000 := fun j v k hv hk => ⟨(h6 j v k hv hk).1.below hZ2, (h6 j v k hv hk).2⟩
  have hH := Lib.hid (And.intro g1 (And.intro g2 (And.intro h3 (And.intro g4 (And.intro h5 (And.intro g6 (And.intro hv (And.intro (hov.below hZ2) (And.intro hone (And.intro hs4' (And.intro hs5 (And.intro hk (And.intro hbl (And.intro hks hkw))))))))))))))
  have hlt := h4.lt g rfl
  have hpl := lt_of_block h1
  clear h h1 h2 h3 h4 h5 h6 hv hov hone hk hZ hZ1 hZ2 x1 y0 y1 y2 g1 g2 g4 g6 hs4 hs5 hs4' hbl hks hkw
  go_enter Tryz.func39, Tryz.ntmps39
  go_wp2_with fail
  clear x1' y0' y1' y2' x1''
  generalize (w.alloc (.cells #[.slice none 0 0, .int .i64 0, .int .i64 0] 77)).alloc (.cells #[.slice A bl d, .int .i64 ksite, .int .i64 kwaits] 77) = w1 at *
  refine (del_any (p + 1) g c ks.length i (pksC vs ks) w1 hH.out.2.2.2.1 hH.out.2.2.2.2.2.2.2.2.1 hi hl).mono ?_
  rintro e w2 ⟨rfl, hO_, hKg_⟩
  have hO := Lib.hid hO_
  have hKg := Lib.hid hKg_
  have b1_ := (hKg_.block p (lt_of_block hH.out.1) (by omega)).trans hH.out.1
  have b4_ := (hKg_.block w.heap.size (lt_of_block hH.out.2.2.2.2.2.2.2.2.2.1) (by omega)).trans hH.out.2.2.2.2.2.2.2.2.2.1
  have b5_ := (hKg_.block (w.heap.size + 1) (lt_of_block hH.out.2.2.2.2.2.2.2.2.2.2.1) (by omega)).trans hH.out.2.2.2.2.2.2.2.2.2.2.1
  have b1 := Lib.hid b1_
  have b4 := Lib.hid b4_
  have b5 := Lib.hid b5_
  have x1 : w2.cell? ⟨p, 1, none⟩ = some (.slice (some ⟨g, 0, none⟩) ks.length c) := by rw [block_cell b1_]; rfl
  have f1 := block_free b1_ 1
  have c1_ := block_setCell b1_ 1 (.slice (some ⟨g, 0, none⟩) (ks.length - 1) c)
  have c4_ := (Below.heap_setCell w2 ⟨p, 1, none⟩ (.slice (some ⟨g, 0, none⟩) (ks.length - 1) c) w.heap.size (by show w.heap.size ≠ p; omega)).trans b4_
  have c5_ := (Below.heap_setCell w2 ⟨p, 1, none⟩ (.slice (some ⟨g, 0, none⟩) (ks.length - 1) c) (w.heap.size + 1) (by show w.heap.size + 1 ≠ p; omega)).trans b5_
  have y40 : (w2.setCell ⟨p, 1, none⟩ (.slice (some ⟨g, 0, none⟩) (ks.length - 1) c)).cell? ⟨w.heap.size, 0, none⟩ = some (.slice none 0 0) := by rw [block_cell c4_]; rfl
  have y41 : (w2.setCell ⟨p, 1, none⟩ (.slice (some ⟨g, 0, none⟩) (ks.length - 1) c)).cell? ⟨w.heap.size, 1, none⟩ = some (.int .i64 0) := by rw [block_cell c4_]; rfl
  have y42 : (w2.setCell ⟨p, 1, none⟩ (.slice (some ⟨g, 0, none⟩) (ks.length - 1) c)).cell? ⟨w.heap.size, 2, none⟩ = some (.int .i64 0) := by rw [block_cell c4_]; rfl
  have y50 : (w2.setCell ⟨p, 1, none⟩ (.slice (some ⟨g, 0, none⟩) (ks.length - 1) c)).cell? ⟨w.heap.size + 1, 0, none⟩ = some (.slice A bl d) := by rw [block_cell c5_]; rfl
  have y51 : (w2.setCell ⟨p, 1, none⟩ (.slice (some ⟨g, 0, none⟩) (ks.length - 1) c)).cell? ⟨w.heap.size + 1, 1, none⟩ = some (.int .i64 ksite) := by rw [block_cell c5_]; rfl
  have y52 : (w2.setCell ⟨p, 1, none⟩ (.slice (some ⟨g, 0, none⟩) (ks.length - 1) c)).cell? ⟨w.heap.size + 1, 2, none⟩ = some (.int .i64 kwaits) := by rw [block_cell c5_]; rfl
  have z40 := block_free c4_ 0
  have z41 := block_free c4_ 1
  have z42 := block_free c4_ 2
  have hc1 := Lib.hid c1_
  have hc4 := Lib.hid c4_
  clear hO_ hKg_ b1_ b4_ b5_ c1_ c4_ c5_
  go_wp2_with fail
  obtain ⟨h1, h2, h3, h4, h5, h6, hv, hov, hone, hs4, hs5, hk, hbl, hks, hkw⟩ := hH.out
  obtain ⟨cur, hcur⟩ : ∃ cur, w1.heap[g]? = some (.cells cur 77 (0, 0)) := by
    rcases h4.2 with ⟨h', _⟩ | ⟨g', cap', cur, h', _, hg', _⟩
    · simp at h'
    · simp only [Value.slice.injEq, Option.some.injEq, Addr.mk.injEq, and_true, true_and] at h'
      obtain ⟨rfl, rfl⟩ := h'
      exact ⟨cur, hg'⟩
  have kA : Kept (NS w p) w w1 := Kept.of_below _ hB1.out
  have kB : Kept (NS w1 p) w1 w2 := hKg.out.mono (fun k hk => by subst hk; exact ⟨by omega, cur, _, _, hcur, .inl rfl⟩)
  have n4 : NS w2 p w.heap.size := ⟨by omega, _, _, _, b4.out, .inl rfl⟩
  have kC1 := Kept.setCell (S := NS w2 p) (p := ⟨p, 1, none⟩) (Kept.refl _ w2) (.inl ⟨Nat.le_refl _, _, _, _, b1.out, .inr rfl⟩) (.slice (some ⟨g, 0, none⟩) (ks.length - 1) c)
  have kC2 := Kept.setCell (p := ⟨w.heap.size, 0, none⟩) kC1 (.inl n4) (.slice A bl d)
  have kC3 := Kept.setCell (p := ⟨w.heap.size, 1, none⟩) kC2 (.inl n4) (.int .i64 ksite)
  have kC := Kept.setCell (p := ⟨w.heap.size, 2, none⟩) kC3 (.inl n4) (.int .i64 kwaits)
  have hend : ∀ q, q ≠ w.heap.size → ((((w2.setCell ⟨p, 1, none⟩ (.slice (some ⟨g, 0, none⟩) (ks.length - 1) c)).setCell ⟨w.heap.size, 0, none⟩ (.slice A bl d)).setCell ⟨w.heap.size, 1, none⟩ (.int .i64 ksite)).setCell ⟨w.heap.size, 2, none⟩ (.int .i64 kwaits)).heap[q]? = (w2.setCell ⟨p, 1, none⟩ (.slice (some ⟨g, 0, none⟩) (ks.length - 1) c)).heap[q]? := by
    intro q hq
    rw [Below.heap_setCell _ _ _ _ (by exact hq), Below.heap_setCell _ _ _ _ (by exact hq), Below.heap_setCell _ _ _ _ (by exact hq)]
  have e4 := block_setCell (block_setCell (block_setCell hc4.out 0 (.slice A bl d)) 1 (.int .i64 ksite)) 2 (.int .i64 kwaits)
  have hW := KeptN_trans kB kC
  generalize (((w2.setCell ⟨p, 1, none⟩ (.slice (some ⟨g, 0, none⟩) (ks.length - 1) c)).setCell ⟨w.heap.size, 0, none⟩ (.slice A bl d)).setCell ⟨w.heap.size, 1, none⟩ (.int .i64 ksite)).setCell ⟨w.heap.size, 2, none⟩ (.int .i64 kwaits) = W4 at *
  have r0 : W4.cell? ⟨w.heap.size, 0, none⟩ = some (.slice A bl d) := by rw [block_cell e4]; rfl
  have r1 : W4.cell? ⟨w.heap.size, 1, none⟩ = some (.int .i64 ksite) := by rw [block_cell e4]; rfl
  have r2 : W4.cell? ⟨w.heap.size, 2, none⟩ = some (.int .i64 kwaits) := by rw [block_cell e4]; rfl
  have hfar : W4.heap[g]? = w2.heap[g]? := by rw [hend g (by omega), Below.heap_setCell _ _ _ _ (by show g ≠ p; omega)]
  have hfarm : W4.heap[mb]? = w1.heap[mb]? := by rw [hend mb (by omega), Below.heap_setCell _ _ _ _ (by show mb ≠ p; omega), hKg.out.block mb (lt_of_block h2) (by omega)]
  have hlen : (ks.eraseIdx i).length = ks.length - 1 := List.length_eraseIdx_of_lt hi
  refine bodyPost_ret (v := .agg #[.slice A bl d, .int .i64 ksite, .int .i64 kwaits]) ?_ rfl ⟨.slice A bl d, by rw [hks, hkw], hov.keptN hW, ⟨some ⟨g, 0, none⟩, c, mb, mk, vs.eraseIdx i, ?_, hfarm.trans h2, h3, ?_, ?_, ?_⟩, KeptN_trans kA hW, g, c, ?_, ?_⟩
  · simp [results, Tryz.results39, go_sem, *]
  · rw [hlen, hend p (by omega), hc1.out]; rfl
  · rw [hlen, ← pksC_erase vs ks i h5 hi]
    exact own_move hO.out fun q hq => by
      simp only [Value.ownBlock, Option.map_some, Option.some.injEq] at hq
      subst hq
      exact hfar
  · rw [hlen, List.length_eraseIdx_of_lt (by omega), h5]
  · intro j v k' hv' hk'
    rw [List.getElem?_eraseIdx] at hv' hk'
    split at hv'
    · rename_i hji
      rw [if_pos hji] at hk'
      obtain ⟨a1, a2⟩ := h6 j v k' hv' hk'
      exact ⟨a1.keptN hW, a2⟩
    · rename_i hji
      rw [if_neg hji] at hk'
      obtain ⟨a1, a2⟩ := h6 (j + 1) v k' hv' hk'
      exact ⟨a1.keptN hW, a2⟩
  · rw [World.cell?_of_block (hend p (by omega)), block_cell hc1.out]; rfl
  · rcases h4.2 with ⟨h', _⟩ | ⟨g', cap', cur, h', _, _, hc', _⟩
    · simp at h'
    · simp only [Value.slice.injEq, Option.some.injEq, Addr.mk.injEq, and_true, true_and] at h'
      obtain ⟨rfl, rfl⟩ := h'
      exact hc'
theorem gone_any (p : Nat) (most : Int) (ks : List PK) (i : Nat) (k : PK) (w : World) (h : NetAt w p most ks) (hk : ks[i]? = some k) (hl : ks.length ≤ 100000) :
    Calls Tryz.prog 39 #[.pointer (some ⟨p, 0, none⟩), .int .i64 i] w fun e w' => ∃ v, e = .returned (.agg #[v, .int .i64 k.site, .int .i64 k.waits]) ∧ OB w' (p + 1) v k.b ∧ NetAt w' p most (ks.eraseIdx i) ∧ Kept (NS w p) w w' :=
  (gone_cap p most ks i k w h hk hl).mono fun e w' ⟨v, h1, h2, h3, h4, _⟩ => ⟨v, h1, h2, h3, h4⟩
end Go.Proofs.YteeiacfddjhhkaaGreatDoor
