/- byroadlaw20.near: a call about packets that there are: the same call, with some numbers. Calls that came in, opened. -/
import Derived.Test.YteeiacfddjhhkaaGreatDoorFrame
namespace Go.Proofs.YteeiacfddjhhkaaGreatDoor
open Go.RowKit
set_option maxRecDepth 100000

/-- A call, as it lies. -/
def opA (kind : Int) (near : Bool) (x : MV) (i k : Int) : Array Value := #[.int .i64 kind, .bool near, .int .i64 x.m.kind, .int .i64 x.m.from_, .int .i64 x.m.to_, .int .i64 x.m.g, .int .i64 x.m.node, .int .i64 x.m.try_, .int .i64 x.m.low, .int .i64 x.m.code, .int .i64 x.m.ticket, .slice x.A x.m.told.length x.c, .slice x.B x.m.ops.length x.d, .int .i64 i, .int .i64 k]
theorem near_res (tmps : Array Value) (w : World) (B : Obj) (a0 a1 a2 a3 a4 a5 a6 a7 a8 a9 a10 a11 a12 a13 a14 : Value) (ht : tmps[4]?.getD undef = .pointer (some ⟨w.heap.size + 1, 0, none⟩)) :
    (results Tryz.f16 tmps).run Tryz.prog ((w.alloc B).alloc (.cells #[a0, a1, a2, a3, a4, a5, a6, a7, a8, a9, a10, a11, a12, a13, a14] 48)) = .ok (.agg #[a0, a1, a2, a3, a4, a5, a6, a7, a8, a9, a10, a11, a12, a13, a14]) ((w.alloc B).alloc (.cells #[a0, a1, a2, a3, a4, a5, a6, a7, a8, a9, a10, a11, a12, a13, a14] 48)) := by
  have hb := heap_alloc_new (w.alloc B) (.cells #[a0, a1, a2, a3, a4, a5, a6, a7, a8, a9, a10, a11, a12, a13, a14] 48)
  rw [World.size_alloc] at hb
  generalize (w.alloc B).alloc (.cells #[a0, a1, a2, a3, a4, a5, a6, a7, a8, a9, a10, a11, a12, a13, a14] 48) = W at *
  have r0 : W.cell? ⟨w.heap.size + 1, 0, none⟩ = some a0 := by rw [block_cell hb]; rfl
  have r1 : W.cell? ⟨w.heap.size + 1, 1, none⟩ = some a1 := by rw [block_cell hb]; rfl
  have r2 : W.cell? ⟨w.heap.size + 1, 2, none⟩ = some a2 := by rw [block_cell hb]; rfl
  have r3 : W.cell? ⟨w.heap.size + 1, 3, none⟩ = some a3 := by rw [block_cell hb]; rfl
  have r4 : W.cell? ⟨w.heap.size + 1, 4, none⟩ = some a4 := by rw [block_cell hb]; rfl
  have r5 : W.cell? ⟨w.heap.size + 1, 5, none⟩ = some a5 := by rw [block_cell hb]; rfl
  have r6 : W.cell? ⟨w.heap.size + 1, 6, none⟩ = some a6 := by rw [block_cell hb]; rfl
  have r7 : W.cell? ⟨w.heap.size + 1, 7, none⟩ = some a7 := by rw [block_cell hb]; rfl
  have r8 : W.cell? ⟨w.heap.size + 1, 8, none⟩ = some a8 := by rw [block_cell hb]; rfl
  have r9 : W.cell? ⟨w.heap.size + 1, 9, none⟩ = some a9 := by rw [block_cell hb]; rfl
  have r10 : W.cell? ⟨w.heap.size + 1, 10, none⟩ = some a10 := by rw [block_cell hb]; rfl
  have r11 : W.cell? ⟨w.heap.size + 1, 11, none⟩ = some a11 := by rw [block_cell hb]; rfl
  have r12 : W.cell? ⟨w.heap.size + 1, 12, none⟩ = some a12 := by rw [block_cell hb]; rfl
  have r13 : W.cell? ⟨w.heap.size + 1, 13, none⟩ = some a13 := by rw [block_cell hb]; rfl
  have r14 : W.cell? ⟨w.heap.size + 1, 14, none⟩ = some a14 := by rw [block_cell hb]; rfl
  simp [results, Tryz.results16, go_sem, ht, r0, r1, r2, r3, r4, r5, r6, r7, r8, r9, r10, r11, r12, r13, r14]
theorem near_false (kind : Int) (x : MV) (i k : Int) (n : Nat) (w : World) :
    Calls Tryz.prog 16 #[.agg (opA kind false x i k), .int .i64 n] w fun e w' => ∃ i' k', e = .returned (.agg (opA kind false x i' k')) ∧ Below w.heap.size w w' := by
  simp only [opA]
  go_enter Tryz.func16, Tryz.ntmps16
  go_wp2_with fail
  all_goals exact bodyPost_ret (near_res _ _ _ _ _ _ _ _ _ _ _ _ _ _ _ _ _ _ rfl) rfl ⟨_, _, rfl, below_alloc (below_alloc (Below.refl _ _) _) _⟩
theorem near_zero (kind : Int) (x : MV) (i k : Int) (w : World) :
    Calls Tryz.prog 16 #[.agg (opA kind true x i k), .int .i64 0] w fun e w' => ∃ i' k', e = .returned (.agg (opA kind true x i' k')) ∧ Below w.heap.size w w' := by
  simp only [opA]
  go_enter Tryz.func16, Tryz.ntmps16
  go_wp2_with fail
  all_goals exact bodyPost_ret (near_res _ _ _ _ _ _ _ _ _ _ _ _ _ _ _ _ _ _ rfl) rfl ⟨_, _, rfl, below_alloc (below_alloc (Below.refl _ _) _) _⟩
theorem near_big (kind : Int) (x : MV) (i k : Int) (n : Nat) (w : World) (hn : n ≠ 0) (h8 : 8 < kind) :
    Calls Tryz.prog 16 #[.agg (opA kind true x i k), .int .i64 n] w fun e w' => ∃ i' k', e = .returned (.agg (opA kind true x i' k')) ∧ Below w.heap.size w w' := by
  simp only [opA]
  have hn0 : ¬ ((n : Int) = 0) := by omega
  have hn1 : ((n : Int) == 0) = false := by simp; omega
  have hn2 : decide ((n : Int) = 0) = false := by simp; omega
  have d8 : decide (8 < kind) = true := by simpa using h8
  clear h8 hn
  go_enter Tryz.func16, Tryz.ntmps16
  go_wp2_with fail
  all_goals exact bodyPost_ret (near_res _ _ _ _ _ _ _ _ _ _ _ _ _ _ _ _ _ _ rfl) rfl ⟨_, _, rfl, below_alloc (below_alloc (Below.refl _ _) _) _⟩
theorem near_oth0 (kind : Int) (x : MV) (i k : Int) (n : Nat) (w : World) (hn : n ≠ 0) (hi : ¬ i.tmod n < 0) (h8 : ¬ 8 < kind) (h6 : ¬ kind = 6) :
    Calls Tryz.prog 16 #[.agg (opA kind true x i k), .int .i64 n] w fun e w' => ∃ i' k', e = .returned (.agg (opA kind true x i' k')) ∧ Below w.heap.size w w' := by
  simp only [opA]
  have hn0 : ¬ ((n : Int) = 0) := by omega
  have hn1 : ((n : Int) == 0) = false := by simp; omega
  have hn2 : decide ((n : Int) = 0) = false := by simp; omega
  have d8 : decide (8 < kind) = false := by simpa using h8
  have d6 : (kind == 6) = false := by simpa using h6
  have di : decide (i.tmod n < 0) = false := by simpa using hi
  clear hi h8 h6 hn
  go_enter Tryz.func16, Tryz.ntmps16
  go_wp2_with fail
  all_goals exact bodyPost_ret (near_res _ _ _ _ _ _ _ _ _ _ _ _ _ _ _ _ _ _ rfl) rfl ⟨_, _, rfl, below_alloc (below_alloc (Below.refl _ _) _) _⟩
theorem near_six0 (kind : Int) (x : MV) (i k : Int) (n : Nat) (w : World) (hn : n ≠ 0) (hi : ¬ i.tmod n < 0) (h6 : kind = 6) :
    Calls Tryz.prog 16 #[.agg (opA kind true x i k), .int .i64 n] w fun e w' => ∃ i' k', e = .returned (.agg (opA kind true x i' k')) ∧ Below w.heap.size w w' := by
  subst h6
  simp only [opA]
  have hn0 : ¬ ((n : Int) = 0) := by omega
  have hn1 : ((n : Int) == 0) = false := by simp; omega
  have hn2 : decide ((n : Int) = 0) = false := by simp; omega
  have di : decide (i.tmod n < 0) = false := by simpa using hi
  clear hi hn
  go_enter Tryz.func16, Tryz.ntmps16
  go_wp2_with fail
  all_goals exact bodyPost_ret (near_res _ _ _ _ _ _ _ _ _ _ _ _ _ _ _ _ _ _ rfl) rfl ⟨_, _, rfl, below_alloc (below_alloc (Below.refl _ _) _) _⟩
theorem near_oth1 (kind : Int) (x : MV) (i k : Int) (n : Nat) (w : World) (hn : n ≠ 0) (hi : i.tmod n < 0) (h8 : ¬ 8 < kind) (h6 : ¬ kind = 6) :
    Calls Tryz.prog 16 #[.agg (opA kind true x i k), .int .i64 n] w fun e w' => ∃ i' k', e = .returned (.agg (opA kind true x i' k')) ∧ Below w.heap.size w w' := by
  simp only [opA]
  have hn0 : ¬ ((n : Int) = 0) := by omega
  have hn1 : ((n : Int) == 0) = false := by simp; omega
  have hn2 : decide ((n : Int) = 0) = false := by simp; omega
  have d8 : decide (8 < kind) = false := by simpa using h8
  have d6 : (kind == 6) = false := by simpa using h6
  have di : decide (i.tmod n < 0) = true := by simpa using hi
  clear hi h8 h6 hn
  go_enter Tryz.func16, Tryz.ntmps16
  go_wp2_with fail
  all_goals exact bodyPost_ret (near_res _ _ _ _ _ _ _ _ _ _ _ _ _ _ _ _ _ _ rfl) rfl ⟨_, _, rfl, below_alloc (below_alloc (Below.refl _ _) _) _⟩
theorem near_six1 (kind : Int) (x : MV) (i k : Int) (n : Nat) (w : World) (hn : n ≠ 0) (hi : i.tmod n < 0) (h6 : kind = 6) :
    Calls Tryz.prog 16 #[.agg (opA kind true x i k), .int .i64 n] w fun e w' => ∃ i' k', e = .returned (.agg (opA kind true x i' k')) ∧ Below w.heap.size w w' := by
  subst h6
  simp only [opA]
  have hn0 : ¬ ((n : Int) = 0) := by omega
  have hn1 : ((n : Int) == 0) = false := by simp; omega
  have hn2 : decide ((n : Int) = 0) = false := by simp; omega
  have di : decide (i.tmod n < 0) = true := by simpa using hi
  clear hi hn
  go_enter Tryz.func16, Tryz.ntmps16
  go_wp2_with fail
  all_goals exact bodyPost_ret (near_res _ _ _ _ _ _ _ _ _ _ _ _ _ _ _ _ _ _ rfl) rfl ⟨_, _, rfl, below_alloc (below_alloc (Below.refl _ _) _) _⟩
theorem near_any (kind : Int) (near : Bool) (x : MV) (i k : Int) (n : Nat) (w : World) :
    Calls Tryz.prog 16 #[.agg (opA kind near x i k), .int .i64 n] w fun e w' => ∃ i' k', e = .returned (.agg (opA kind near x i' k')) ∧ Below w.heap.size w w' := by
  cases near
  · exact near_false kind x i k n w
  · by_cases hn : n = 0
    · subst hn
      exact near_zero kind x i k w
    · by_cases h8 : 8 < kind
      · exact near_big kind x i k n w hn h8
      · by_cases hi : i.tmod n < 0 <;> by_cases h6 : kind = 6
        · exact near_six1 kind x i k n w hn hi h6
        · exact near_oth1 kind x i k n w hn hi h8 h6
        · exact near_six0 kind x i k n w hn hi h6
        · exact near_oth0 kind x i k n w hn hi h8 h6
end Go.Proofs.YteeiacfddjhhkaaGreatDoor
namespace Go.Proofs.YteeiacfddjhhkaaGreatDoor
open Go.ChangeShapes Go.WideShapes Go.RowKit
set_option maxRecDepth 100000

structure OpV where
  kind : Int
  near : Bool
  x : MV
  i : Int
  k : Int
def opvC (o : OpV) : List Value := (opA o.kind o.near o.x o.i o.k).toList
def opvsC (l : List OpV) : List Value := (l.map opvC).flatten
theorem opvC_len (o : OpV) : (opvC o).length = 15 := rfl
theorem opvsC_get : ∀ (l : List OpV) (k : Nat) (o : OpV) (j : Nat), l[k]? = some o → j < 15 → (opvsC l)[k * 15 + j]? = (opvC o)[j]?
  | [], k, o, j, h, _ => by simp at h
  | y :: l, 0, o, j, h, hj => by
    simp at h
    subst h
    show (opvC y ++ opvsC l)[0 * 15 + j]? = _
    rw [Nat.zero_mul, Nat.zero_add, List.getElem?_append_left (by rw [opvC_len]; exact hj)]
  | y :: l, k + 1, o, j, h, hj => by
    simp at h
    show (opvC y ++ opvsC l)[(k + 1) * 15 + j]? = _
    rw [List.getElem?_append_right (by rw [opvC_len]; omega), opvC_len, ← opvsC_get l k o j h hj]
    congr 1
    omega
theorem opvs_at {w : World} {A : Option Addr} {l : List OpV} (h : RowAt w A (opvsC l)) {k : Nat} {o : OpV} (hx : l[k]? = some o) :
    ∃ ad, A = some ad ∧ w.cell? (ad.add (k * 15)) = some (.int .i64 o.kind) ∧ w.cell? ⟨(ad.add (k * 15)).block, (ad.add (k * 15)).off + 1, none⟩ = some (.bool o.near) ∧ w.cell? ⟨(ad.add (k * 15)).block, (ad.add (k * 15)).off + 2, none⟩ = some (.int .i64 o.x.m.kind) ∧ w.cell? ⟨(ad.add (k * 15)).block, (ad.add (k * 15)).off + 3, none⟩ = some (.int .i64 o.x.m.from_) ∧ w.cell? ⟨(ad.add (k * 15)).block, (ad.add (k * 15)).off + 4, none⟩ = some (.int .i64 o.x.m.to_) ∧ w.cell? ⟨(ad.add (k * 15)).block, (ad.add (k * 15)).off + 5, none⟩ = some (.int .i64 o.x.m.g) ∧ w.cell? ⟨(ad.add (k * 15)).block, (ad.add (k * 15)).off + 6, none⟩ = some (.int .i64 o.x.m.node) ∧ w.cell? ⟨(ad.add (k * 15)).block, (ad.add (k * 15)).off + 7, none⟩ = some (.int .i64 o.x.m.try_) ∧ w.cell? ⟨(ad.add (k * 15)).block, (ad.add (k * 15)).off + 8, none⟩ = some (.int .i64 o.x.m.low) ∧ w.cell? ⟨(ad.add (k * 15)).block, (ad.add (k * 15)).off + 9, none⟩ = some (.int .i64 o.x.m.code) ∧ w.cell? ⟨(ad.add (k * 15)).block, (ad.add (k * 15)).off + 10, none⟩ = some (.int .i64 o.x.m.ticket) ∧ w.cell? ⟨(ad.add (k * 15)).block, (ad.add (k * 15)).off + 11, none⟩ = some (.slice o.x.A o.x.m.told.length o.x.c) ∧ w.cell? ⟨(ad.add (k * 15)).block, (ad.add (k * 15)).off + 12, none⟩ = some (.slice o.x.B o.x.m.ops.length o.x.d) ∧ w.cell? ⟨(ad.add (k * 15)).block, (ad.add (k * 15)).off + 13, none⟩ = some (.int .i64 o.i) ∧ w.cell? ⟨(ad.add (k * 15)).block, (ad.add (k * 15)).off + 14, none⟩ = some (.int .i64 o.k) := by
  obtain ⟨ad, hA, h0⟩ := h (k * 15) (.int .i64 o.kind) (opvsC_get l k o 0 hx (by omega))
  subst hA
  have g : ∀ j u, 0 < j → j < 15 → (opvC o)[j]? = some u → w.cell? ⟨(ad.add (k * 15)).block, (ad.add (k * 15)).off + j, none⟩ = some u := by
    intro j u h0 hj hu
    obtain ⟨ad', hA, hc⟩ := h (k * 15 + j) u (by rw [opvsC_get l k o j hx hj]; exact hu)
    cases hA
    rw [← add_off _ _ _ h0]
    exact hc
  exact ⟨ad, rfl, h0, g 1 _ (by omega) (by omega) rfl, g 2 _ (by omega) (by omega) rfl, g 3 _ (by omega) (by omega) rfl, g 4 _ (by omega) (by omega) rfl, g 5 _ (by omega) (by omega) rfl, g 6 _ (by omega) (by omega) rfl, g 7 _ (by omega) (by omega) rfl, g 8 _ (by omega) (by omega) rfl, g 9 _ (by omega) (by omega) rfl, g 10 _ (by omega) (by omega) rfl, g 11 _ (by omega) (by omega) rfl, g 12 _ (by omega) (by omega) rfl, g 13 _ (by omega) (by omega) rfl, g 14 _ (by omega) (by omega) rfl⟩
section
variable {H : Type} {enc : TypeId × Value → H} {w : World} {base : Nat} {sp : Nat → Bool} {held : Bool}
theorem Tryz.fsOpv : Tryz.prog.underlying 48 = some (.struct (Tryz.prog.fieldsOf 48)) := by kernel_rfl
theorem Tryz.fsOpv2 : (Tryz.prog.fieldsOf 48).map (fun f => (f.type, f.offset)) = #[(3, 0), (4, 1), (31, 2), (3, 13), (3, 14)] := by kernel_rfl
theorem Tryz.sizes2 : Tryz.prog.cellsOf 4 = 1 ∧ Tryz.prog.cellsOf 48 = 15 := by
  refine ⟨?_, ?_⟩ <;> kernel_rfl
theorem opv_part {fuel : Nat} {cs : List Value} {x : DataW H × List MemPlace} (h : DataW.trod enc Tryz.prog w base sp held fuel 48 cs = some x) : ∃ o : OpV, cs = opvC o ∧ InM w o.x := by
  obtain ⟨s1, s2, s3, s4, s5, s6, s7, s8⟩ := Tryz.sizes
  obtain ⟨t1, t2⟩ := Tryz.sizes2
  obtain ⟨xs, n, _, _, hl, _, _⟩ := DataW.trod_struct Tryz.fsOpv h
  rw [t2] at hl
  match cs, hl with
  | [a0, a1, a2, a3, a4, a5, a6, a7, a8, a9, a10, a11, a12, a13, a14], _ =>
    obtain ⟨n0, y0, h0⟩ := struct_part (j := 0) (tj := 3) (oj := 0) Tryz.fsOpv h (by rw [Tryz.fsOpv2]; rfl)
    obtain ⟨n1, y1, h1⟩ := struct_part (j := 1) (tj := 4) (oj := 1) Tryz.fsOpv h (by rw [Tryz.fsOpv2]; rfl)
    obtain ⟨n2, y2, h2⟩ := struct_part (j := 2) (tj := 31) (oj := 2) Tryz.fsOpv h (by rw [Tryz.fsOpv2]; rfl)
    obtain ⟨n3, y3, h3⟩ := struct_part (j := 3) (tj := 3) (oj := 13) Tryz.fsOpv h (by rw [Tryz.fsOpv2]; rfl)
    obtain ⟨n4, y4, h4⟩ := struct_part (j := 4) (tj := 3) (oj := 14) Tryz.fsOpv h (by rw [Tryz.fsOpv2]; rfl)
    rw [s1] at h0 h3 h4
    rw [t1] at h1
    rw [s8] at h2
    obtain ⟨i0, rfl, _⟩ := int_part (v := a0) Tryz.underlying3 h0
    obtain ⟨b1, hb1, _⟩ := DataW.trod_bool Tryz.underlying4 h1
    obtain ⟨y, hy, hM⟩ := msg_part h2
    obtain ⟨i3, rfl, _⟩ := int_part (v := a13) Tryz.underlying3 h3
    obtain ⟨i4, rfl, _⟩ := int_part (v := a14) Tryz.underlying3 h4
    refine ⟨⟨i0, b1, y, i3, i4⟩, ?_, hM⟩
    have e1 : a1 = .bool b1 := by simpa using hb1
    subst e1
    have e2 : [a2, a3, a4, a5, a6, a7, a8, a9, a10, a11, a12] = mvC y := hy
    show _ = [Value.int .i64 i0, .bool b1] ++ mvC y ++ [.int .i64 i3, .int .i64 i4]
    rw [← e2]
    rfl
theorem opvs_part {fuel : Nat} {v : Value} {x : DataW H × List MemPlace} (h : DataW.trod enc Tryz.prog w base sp held fuel 46 [v] = some x) : ∃ L cl, ∃ l : List OpV, v = .slice L l.length cl ∧ RowAt w L (opvsC l) ∧ l.length ≤ cl ∧ cl ≤ maxLen ∧ ∀ o ∈ l, InM w o.x :=
  row_part opvC (fun o => InM w o.x) 15 Tryz.sizes2.2 (by decide) (fun _ => rfl) Tryz.underlying46 (fun n cs y hy => opv_part hy) h
end
end Go.Proofs.YteeiacfddjhhkaaGreatDoor
