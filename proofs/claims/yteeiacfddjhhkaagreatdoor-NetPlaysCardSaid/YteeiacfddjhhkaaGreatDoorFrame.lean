/- Messages that came in, opened: what can be read as data lies there as messages. The frame of the law's loops: which blocks may change; rows that stay. -/
import Derived.Test.YteeiacfddjhhkaaGreatDoorSend
import Derived.ChangeSlices
import Derived.ChangeArms
import Derived.DataReads
import Derived.ChangeShapes
import Derived.WideKeyArgs
import Derived.Laws.StructEq
namespace Go.Proofs.YteeiacfddjhhkaaGreatDoor
open Go.ChangeShapes Go.WideShapes Go.RowKit
set_option maxRecDepth 100000

theorem list_of_forall {α : Type} (P : Nat → α → Prop) : ∀ n : Nat, (∀ i, i < n → ∃ x, P i x) → ∃ l : List α, l.length = n ∧ ∀ i x, l[i]? = some x → P i x
  | 0, _ => ⟨[], rfl, fun i x h => by simp at h⟩
  | n + 1, h => by
    obtain ⟨l, hl, hp⟩ := list_of_forall P n (fun i hi => h i (by omega))
    obtain ⟨x, hx⟩ := h n (by omega)
    refine ⟨l ++ [x], by simp [hl], fun i y hy => ?_⟩
    by_cases hi : i < l.length
    · rw [List.getElem?_append_left hi] at hy
      exact hp i y hy
    · have hlt := (List.getElem?_eq_some_iff.1 hy).1
      simp at hlt
      have e : i = n := by omega
      rw [List.getElem?_append_right (by omega), show i - l.length = 0 by omega] at hy
      simp at hy
      subst hy e
      exact hx
/-- A message that came in. -/
structure InM (w : World) (x : MV) : Prop where
  told : RowAt w x.A (i64s x.m.told)
  ops : RowAt w x.B (opsC x.m.ops)
  c : x.m.told.length ≤ x.c
  cm : x.c ≤ maxLen
  ol : x.m.ops.length ≤ maxLen
  toldok : ∀ n ∈ x.m.told, i64ok n
  opsok : ∀ o ∈ x.m.ops, o.ok
  keys : ∀ o ∈ x.m.ops, o.key.size ≤ maxLen
  nums : i64ok x.m.kind ∧ i64ok x.m.from_ ∧ i64ok x.m.to_ ∧ i64ok x.m.g ∧ i64ok x.m.node ∧ i64ok x.m.try_ ∧ i64ok x.m.low ∧ i64ok x.m.code ∧ i64ok x.m.ticket
theorem InM.below {w w' : World} {x : MV} (h : InM w x) (hb : Below w.heap.size w w') : InM w' x :=
  ⟨h.told.below hb, h.ops.below hb, h.c, h.cm, h.ol, h.toldok, h.opsok, h.keys, h.nums⟩
section
variable {H : Type} {enc : TypeId × Value → H} {w : World} {base : Nat} {sp : Nat → Bool} {held : Bool}

theorem wf_i64 {n : Int} (h : (Lit.int .i64 n).wf = true) : i64ok n := by
  simp [Lit.wf, IntKind.min, IntKind.max] at h
  unfold i64ok
  have h1 := h.1
  have h2 := h.2
  revert h1 h2
  simp only [IntKind.signed, IntKind.bits]
  intro h1 h2
  simp at h1 h2
  exact ⟨h1, h2⟩
theorem struct_part {P : Program} {fs : Array Field} {t : TypeId} {fuel : Nat} {cs : List Value} {x : DataW H × List MemPlace} {j : Nat} {tj : TypeId} {oj : Nat} (ht : P.underlying t = some (.struct fs)) (h : DataW.trod enc P w base sp held fuel t cs = some x)
    (hf : (fs.map fun f => (f.type, f.offset))[j]? = some (tj, oj)) : ∃ n y, DataW.trod enc P w base sp held n tj ((cs.drop oj).take (P.cellsOf tj)) = some y := by
  obtain ⟨xs, n, _, _, _, hl, hp⟩ := DataW.trod_struct ht h
  rw [Array.getElem?_map] at hf
  obtain ⟨f, hf1, hf2⟩ := Option.map_eq_some_iff.1 hf
  simp only [Prod.mk.injEq] at hf2
  obtain ⟨rfl, rfl⟩ := hf2
  have hj : j < xs.length := by rw [hl]; exact (Array.getElem?_eq_some_iff.1 hf1).1
  exact ⟨n, xs[j], (hp j f hf1).trans (List.getElem?_eq_getElem hj)⟩
theorem int_part {fuel : Nat} {v : Value} {x : DataW H × List MemPlace} {T : TypeId} (hT : Tryz.prog.underlying T = some (.int .i64)) (h : DataW.trod enc Tryz.prog w base sp held fuel T [v] = some x) : ∃ n, v = .int .i64 n ∧ i64ok n := by
  obtain ⟨n, hc, _, hw⟩ := DataW.trod_int hT h
  exact ⟨n, by simpa using hc, wf_i64 hw⟩
theorem str_part {fuel : Nat} {v : Value} {x : DataW H × List MemPlace} (h : DataW.trod enc Tryz.prog w base sp held fuel 9 [v] = some x) : ∃ s : ByteArray, v = .string s ∧ s.size ≤ maxLen := by
  obtain ⟨s, hc, _, hw⟩ := DataW.trod_string Tryz.underlying9 h
  exact ⟨s, by simpa using hc, hw⟩
theorem told_part {fuel : Nat} {v : Value} {x : DataW H × List MemPlace} (h : DataW.trod enc Tryz.prog w base sp held fuel 28 [v] = some x) : ∃ A c, ∃ l : List Int, v = .slice A l.length c ∧ RowAt w A (i64s l) ∧ l.length ≤ c ∧ c ≤ maxLen ∧ ∀ n ∈ l, i64ok n := by
  rcases open_ints Tryz.underlying28 Tryz.underlying2 (by kernel_rfl) h with ⟨hc, _⟩ | ⟨a, len, cap, zs, hc, _, hlc, hcm, hzl, _, hcell, hwf⟩
  · exact ⟨none, 0, [], by simpa using hc, RowAt.nil _ _, by simp, by simp, by simp⟩
  · have hlz : len ≤ zs.length := by rw [hzl]; split <;> omega
    refine ⟨some a, cap, zs.take len, ?_, ?_, ?_, hcm, fun n hn => wf_i64 (hwf n (List.mem_of_mem_take hn))⟩
    · rw [List.length_take, Nat.min_eq_left hlz]; simpa using hc
    · intro j u hu
      rw [i64s, List.getElem?_map, List.getElem?_take] at hu
      split at hu
      · rename_i hj
        refine ⟨a, rfl, ?_⟩
        rw [hcell j (by omega)]
        rw [List.getElem?_eq_getElem (by omega)] at hu
        simp only [Option.map_some, Option.some.injEq] at hu
        rw [← hu, List.getD_eq_getElem?_getD, List.getElem?_eq_getElem (by omega)]
        rfl
      · simp at hu
    · rw [List.length_take, Nat.min_eq_left hlz]; exact hlc
theorem Tryz.fsOp : Tryz.prog.underlying 108 = some (.struct (Tryz.prog.fieldsOf 108)) := by kernel_rfl
theorem Tryz.fsOp2 : (Tryz.prog.fieldsOf 108).map (fun f => (f.type, f.offset)) = #[(3, 0), (9, 1), (2, 2), (2, 3)] := by kernel_rfl
theorem Tryz.fsMsg : Tryz.prog.underlying 31 = some (.struct (Tryz.prog.fieldsOf 31)) := by kernel_rfl
theorem Tryz.fsMsg2 : (Tryz.prog.fieldsOf 31).map (fun f => (f.type, f.offset)) = #[(3, 0), (3, 1), (3, 2), (3, 3), (3, 4), (3, 5), (3, 6), (25, 7), (2, 8), (28, 9), (29, 10)] := by kernel_rfl
theorem Tryz.sizes : Tryz.prog.cellsOf 3 = 1 ∧ Tryz.prog.cellsOf 9 = 1 ∧ Tryz.prog.cellsOf 2 = 1 ∧ Tryz.prog.cellsOf 25 = 1 ∧ Tryz.prog.cellsOf 28 = 1 ∧ Tryz.prog.cellsOf 29 = 1 ∧ Tryz.prog.cellsOf 108 = 4 ∧ Tryz.prog.cellsOf 31 = 11 := by
  refine ⟨?_, ?_, ?_, ?_, ?_, ?_, ?_, ?_⟩ <;> kernel_rfl
theorem op_part {fuel : Nat} {cs : List Value} {x : DataW H × List MemPlace} (h : DataW.trod enc Tryz.prog w base sp held fuel 108 cs = some x) : ∃ o : POp, cs = opC o ∧ o.ok ∧ o.key.size ≤ maxLen := by
  obtain ⟨s1, s2, s3, s4, s5, s6, s7, s8⟩ := Tryz.sizes
  obtain ⟨xs, n, _, _, hl, _, _⟩ := DataW.trod_struct Tryz.fsOp h
  rw [s7] at hl
  match cs, hl with
  | [a0, a1, a2, a3], _ =>
    obtain ⟨n0, y0, h0⟩ := struct_part (j := 0) (tj := 3) (oj := 0) Tryz.fsOp h (by rw [Tryz.fsOp2]; rfl)
    obtain ⟨n1, y1, h1⟩ := struct_part (j := 1) (tj := 9) (oj := 1) Tryz.fsOp h (by rw [Tryz.fsOp2]; rfl)
    obtain ⟨n2, y2, h2⟩ := struct_part (j := 2) (tj := 2) (oj := 2) Tryz.fsOp h (by rw [Tryz.fsOp2]; rfl)
    obtain ⟨n3, y3, h3⟩ := struct_part (j := 3) (tj := 2) (oj := 3) Tryz.fsOp h (by rw [Tryz.fsOp2]; rfl)
    rw [s1] at h0
    rw [s2] at h1
    rw [s3] at h2 h3
    obtain ⟨i0, rfl, o0⟩ := int_part (v := a0) Tryz.underlying3 h0
    obtain ⟨i1, rfl, o1⟩ := str_part (v := a1) h1
    obtain ⟨i2, rfl, o2⟩ := int_part (v := a2) Tryz.underlying2 h2
    obtain ⟨i3, rfl, o3⟩ := int_part (v := a3) Tryz.underlying2 h3
    exact ⟨⟨i0, i1, i2, i3⟩, rfl, ⟨o0, o2, o3⟩, o1⟩
/-- Rows of structs. -/
theorem row_part {α : Type} {P : Program} {t e : TypeId} {fuel : Nat} {v : Value} {x : DataW H × List MemPlace} (C : α → List Value) (R : α → Prop) (sz : Nat) (hsz : P.cellsOf e = sz) (hpos : 0 < sz) (hC : ∀ o, (C o).length = sz)
    (ht : P.underlying t = some (.slice e)) (hel : ∀ n cs y, DataW.trod enc P w base sp held n e cs = some y → ∃ o, cs = C o ∧ R o) (h : DataW.trod enc P w base sp held fuel t [v] = some x) :
    ∃ A c, ∃ l : List α, v = .slice A l.length c ∧ RowAt w A (l.map C).flatten ∧ l.length ≤ c ∧ c ≤ maxLen ∧ ∀ o ∈ l, R o := by
  rcases DataW.trod_slice ht h with ⟨hc, _⟩ | ⟨a, len, cap, elems, rest, n, _, hc, _, _, hlc, hcm, hlen, hget, _⟩
  · exact ⟨none, 0, [], by simpa using hc, RowAt.nil _ _, by simp, by simp, by simp⟩
  · obtain ⟨l, hl, hp⟩ := list_of_forall (fun i o => R o ∧ ∀ j, j < sz → w.cell? ((a.add (i * sz)).add j) = (C o)[j]?) len (fun i hi => by
      have h1 := hget i hi
      rw [List.getElem?_eq_getElem (by omega), hsz] at h1
      obtain ⟨cs, hcs, hy⟩ := Option.bind_eq_some_iff.1 h1
      obtain ⟨o, rfl, ho⟩ := hel _ _ _ hy
      exact ⟨o, ho, (World.cells?_some hcs).2.2⟩)
    refine ⟨some a, cap, l, by rw [hl]; simpa using hc, ?_, by omega, hcm, fun o ho => ?_⟩
    · intro j u hu
      refine ⟨a, rfl, ?_⟩
      have key : ∀ (l : List α) (i0 : Nat) (j : Nat) (u : Value), (∀ i o, l[i]? = some o → ∀ j, j < sz → w.cell? ((a.add ((i0 + i) * sz)).add j) = (C o)[j]?) → (l.map C).flatten[j]? = some u → w.cell? (a.add (i0 * sz + j)) = some u := by
        intro l
        induction l with
        | nil => intro i0 j u _ hu; simp at hu
        | cons o r ih =>
          intro i0 j u hall hu
          rw [List.map_cons, List.flatten_cons] at hu
          by_cases hj : j < sz
          · rw [List.getElem?_append_left (by rw [hC]; exact hj)] at hu
            have := hall 0 o rfl j hj
            rw [Nat.add_zero, add_add] at this
            rw [this]; exact hu
          · rw [List.getElem?_append_right (by rw [hC]; omega), hC] at hu
            have := ih (i0 + 1) (j - sz) u (fun i o' ho' j hj => by
              have := hall (i + 1) o' (by simpa using ho') j hj
              rwa [show i0 + (i + 1) = i0 + 1 + i by omega] at this) hu
            rwa [show (i0 + 1) * sz + (j - sz) = i0 * sz + j by rw [Nat.add_mul]; omega] at this
      have := key l 0 j u (fun i o ho j hj => by rw [Nat.zero_add]; exact (hp i o ho).2 j hj) hu
      rwa [Nat.zero_mul, Nat.zero_add] at this
    · obtain ⟨i, hi⟩ := List.getElem?_of_mem ho
      exact (hp i o hi).1
theorem msg_part {fuel : Nat} {cs : List Value} {x : DataW H × List MemPlace} (h : DataW.trod enc Tryz.prog w base sp held fuel 31 cs = some x) : ∃ y : MV, cs = mvC y ∧ InM w y := by
  obtain ⟨s1, s2, s3, s4, s5, s6, s7, s8⟩ := Tryz.sizes
  obtain ⟨xs, n, _, _, hl, _, _⟩ := DataW.trod_struct Tryz.fsMsg h
  rw [s8] at hl
  match cs, hl with
  | [a0, a1, a2, a3, a4, a5, a6, a7, a8, a9, a10], _ =>
    obtain ⟨n0, y0, h0⟩ := struct_part (j := 0) (tj := 3) (oj := 0) Tryz.fsMsg h (by rw [Tryz.fsMsg2]; rfl)
    rw [s1] at h0
    obtain ⟨n1, y1, h1⟩ := struct_part (j := 1) (tj := 3) (oj := 1) Tryz.fsMsg h (by rw [Tryz.fsMsg2]; rfl)
    rw [s1] at h1
    obtain ⟨n2, y2, h2⟩ := struct_part (j := 2) (tj := 3) (oj := 2) Tryz.fsMsg h (by rw [Tryz.fsMsg2]; rfl)
    rw [s1] at h2
    obtain ⟨n3, y3, h3⟩ := struct_part (j := 3) (tj := 3) (oj := 3) Tryz.fsMsg h (by rw [Tryz.fsMsg2]; rfl)
    rw [s1] at h3
    obtain ⟨n4, y4, h4⟩ := struct_part (j := 4) (tj := 3) (oj := 4) Tryz.fsMsg h (by rw [Tryz.fsMsg2]; rfl)
    rw [s1] at h4
    obtain ⟨n5, y5, h5⟩ := struct_part (j := 5) (tj := 3) (oj := 5) Tryz.fsMsg h (by rw [Tryz.fsMsg2]; rfl)
    rw [s1] at h5
    obtain ⟨n6, y6, h6⟩ := struct_part (j := 6) (tj := 3) (oj := 6) Tryz.fsMsg h (by rw [Tryz.fsMsg2]; rfl)
    rw [s1] at h6
    obtain ⟨n7, y7, h7⟩ := struct_part (j := 7) (tj := 25) (oj := 7) Tryz.fsMsg h (by rw [Tryz.fsMsg2]; rfl)
    rw [s4] at h7
    obtain ⟨n8, y8, h8⟩ := struct_part (j := 8) (tj := 2) (oj := 8) Tryz.fsMsg h (by rw [Tryz.fsMsg2]; rfl)
    rw [s3] at h8
    obtain ⟨n9, y9, h9⟩ := struct_part (j := 9) (tj := 28) (oj := 9) Tryz.fsMsg h (by rw [Tryz.fsMsg2]; rfl)
    rw [s5] at h9
    obtain ⟨n10, y10, h10⟩ := struct_part (j := 10) (tj := 29) (oj := 10) Tryz.fsMsg h (by rw [Tryz.fsMsg2]; rfl)
    rw [s6] at h10
    obtain ⟨i0, rfl, o0⟩ := int_part (v := a0) Tryz.underlying3 h0
    obtain ⟨i1, rfl, o1⟩ := int_part (v := a1) Tryz.underlying3 h1
    obtain ⟨i2, rfl, o2⟩ := int_part (v := a2) Tryz.underlying3 h2
    obtain ⟨i3, rfl, o3⟩ := int_part (v := a3) Tryz.underlying3 h3
    obtain ⟨i4, rfl, o4⟩ := int_part (v := a4) Tryz.underlying3 h4
    obtain ⟨i5, rfl, o5⟩ := int_part (v := a5) Tryz.underlying3 h5
    obtain ⟨i6, rfl, o6⟩ := int_part (v := a6) Tryz.underlying3 h6
    obtain ⟨i7, rfl, o7⟩ := int_part (v := a7) Tryz.underlying25 h7
    obtain ⟨i8, rfl, o8⟩ := int_part (v := a8) Tryz.underlying2 h8
    obtain ⟨A, c, told, rfl, t1, t2, t3, t4⟩ := told_part (v := a9) h9
    obtain ⟨B, d, ops, rfl, p1, p2, p3, p4⟩ := row_part (v := a10) opC (fun o => o.ok ∧ o.key.size ≤ maxLen) 4 s7 (by decide) (fun _ => rfl) Tryz.underlying29 (fun n cs y hy => op_part hy) h10
    exact ⟨⟨⟨i0, i1, i2, i3, i4, i5, i6, i7, i8, told, ops⟩, A, c, B, d⟩, rfl, t1, p1, t2, t3, Nat.le_trans p2 p3, t4, fun o ho => (p4 o ho).1, fun o ho => (p4 o ho).2, ⟨o0, o1, o2, o3, o4, o5, o6, o7, o8⟩⟩
theorem msgs_part {fuel : Nat} {v : Value} {x : DataW H × List MemPlace} (h : DataW.trod enc Tryz.prog w base sp held fuel 22 [v] = some x) : ∃ L cl, ∃ l : List MV, v = .slice L l.length cl ∧ RowAt w L (mvsC l) ∧ l.length ≤ cl ∧ cl ≤ maxLen ∧ ∀ y ∈ l, InM w y :=
  row_part mvC (InM w) 11 Tryz.sizes.2.2.2.2.2.2.2 (by decide) (fun _ => rfl) Tryz.underlying22 (fun n cs y hy => msg_part hy) h
end
end Go.Proofs.YteeiacfddjhhkaaGreatDoor
namespace Go.Proofs.YteeiacfddjhhkaaGreatDoor
open Go.RowKit
set_option maxRecDepth 100000

/-- Blocks of the law's own that change: from N0 on, of packets, nets, messages. -/
def MS (w : World) (N0 b : Nat) : Prop := N0 ≤ b ∧ ∃ cur T fr, w.heap[b]? = some (.cells cur T fr) ∧ (T = 77 ∨ T = 71 ∨ T = 31 ∨ T = 37 ∨ T = 48)
theorem MS.of_NS {w : World} {N0 p b : Nat} (hp : N0 ≤ p) (h : NS w p b) : MS w N0 b := by
  obtain ⟨h1, cur, T, fr, hb, hT⟩ := h
  exact ⟨by omega, cur, T, fr, hb, hT.elim .inl (fun h => .inr (.inl h))⟩
theorem KeptM_of_N {w w' : World} {N0 p : Nat} (hp : N0 ≤ p) (h : Kept (NS w p) w w') : Kept (MS w N0) w w' := h.mono (fun _ hk => MS.of_NS hp hk)
theorem KeptM_trans {N0 : Nat} {a b c : World} (h : Kept (MS a N0) a b) (k : Kept (MS b N0) b c) : Kept (MS a N0) a c :=
  h.trans k fun j hj hS => by
    by_cases hn : MS a N0 j
    · exact hn
    · obtain ⟨hp, cur, T, fr, hb, hT⟩ := hS
      exact ⟨hp, cur, T, fr, (h.block j hj hn).symm.trans hb, hT⟩
theorem KeptM_below {W a b : World} (hB : Below W.heap.size W a) (hk : Kept (MS a W.heap.size) a b) : Below W.heap.size W b :=
  hB.trans (hk.to_below hB.size (fun _ h => h.1))
/-- A row that stays. -/
def RowF (w : World) (N0 : Nat) (A : Option Addr) (cs : List Value) : Prop := RowAt w A cs ∧ (cs = [] ∨ ∀ ad, A = some ad → ¬ MS w N0 ad.block)
theorem RowF.kept {w w' : World} {N0 : Nat} {A : Option Addr} {cs : List Value} (h : RowF w N0 A cs) (hk : Kept (MS w N0) w w') : RowF w' N0 A cs := by
  obtain ⟨hr, hs⟩ := h
  by_cases hc : cs = []
  · subst hc
    exact ⟨RowAt.nil _ _, .inl rfl⟩
  · have hs := hs.resolve_left hc
    refine ⟨hr.kept hk hs, .inr fun ad hA hM => ?_⟩
    subst hA
    have hlt := hr.lt hc
    obtain ⟨h1, cur, T, fr, hb, hT⟩ := hM
    exact hs ad rfl ⟨h1, cur, T, fr, (hk.block _ hlt (hs ad rfl)).symm.trans hb, hT⟩
theorem RowF.notNS {w : World} {N0 p : Nat} {A : Option Addr} {cs : List Value} (h : RowF w N0 A cs) (hp : N0 ≤ p) : cs = [] ∨ ∀ ad, A = some ad → ¬ NS w p ad.block :=
  h.2.imp id fun h ad hA hn => h ad hA (MS.of_NS hp hn)
theorem RowF.of_old {w W : World} {A : Option Addr} {cs : List Value} (h : RowAt W A cs) (hB : Below W.heap.size W w) : RowF w W.heap.size A cs := by
  refine ⟨h.below hB, ?_⟩
  by_cases hc : cs = []
  · exact .inl hc
  · refine .inr fun ad hA hM => ?_
    subst hA
    have := h.lt hc
    have := hM.1
    omega
theorem RowF.of_own {w : World} {N0 base n c size : Nat} {T : TypeId} {A : Option Addr} {cs : List Value} (h : w.ownsRow base T size (.slice A n c) n cs)
    (hT : T ≠ 77 ∧ T ≠ 71 ∧ T ≠ 31 ∧ T ≠ 37 ∧ T ≠ 48) : RowF w N0 A cs := by
  refine ⟨RowAt.of_own h rfl, .inr fun ad hA hM => ?_⟩
  subst hA
  obtain ⟨cur, hc⟩ := own_type h (g := ad.block) rfl
  obtain ⟨_, cur', T', fr, hb, hT'⟩ := hM
  rw [hc] at hb
  simp only [Option.some.injEq, Obj.cells.injEq] at hb
  obtain ⟨_, rfl, _⟩ := hb
  rcases hT' with h | h | h | h | h
  · exact hT.1 h
  · exact hT.2.1 h
  · exact hT.2.2.1 h
  · exact hT.2.2.2.1 h
  · exact hT.2.2.2.2 h
/-- Owned rows of another kind stay. -/
theorem own_keptM {w w' : World} {N0 base n size : Nat} {T : TypeId} {v : Value} {xs : List Value} (h : w.ownsRow base T size v n xs) (hk : Kept (MS w N0) w w')
    (hT : T ≠ 77 ∧ T ≠ 71 ∧ T ≠ 31 ∧ T ≠ 37 ∧ T ≠ 48) : w'.ownsRow base T size v n xs :=
  own_move h fun q hq => by
    obtain ⟨cur, hc⟩ := own_type h hq
    refine hk.block q (lt_of_block hc) fun hM => ?_
    obtain ⟨_, cur', T', fr, hb, hT'⟩ := hM
    rw [hc] at hb
    simp only [Option.some.injEq, Obj.cells.injEq] at hb
    obtain ⟨_, rfl, _⟩ := hb
    rcases hT' with h | h | h | h | h
    · exact hT.1 h
    · exact hT.2.1 h
    · exact hT.2.2.1 h
    · exact hT.2.2.2.1 h
    · exact hT.2.2.2.2 h
/-- A row of the document's messages stays where only a net changes. -/
theorem own_keptN {w w' : World} {p base n size : Nat} {T : TypeId} {v : Value} {xs : List Value} (h : w.ownsRow base T size v n xs) (hk : Kept (NS w p) w w') (hT : T ≠ 77 ∧ T ≠ 71) : w'.ownsRow base T size v n xs :=
  own_move h fun q hq => by
    obtain ⟨cur, hc⟩ := own_type h hq
    refine hk.block q (lt_of_block hc) fun hM => ?_
    obtain ⟨_, cur', T', fr, hb, hT'⟩ := hM
    rw [hc] at hb
    simp only [Option.some.injEq, Obj.cells.injEq] at hb
    obtain ⟨_, rfl, _⟩ := hb
    rcases hT' with h | h
    · exact hT.1 h
    · exact hT.2 h
/-- A message of the law's: it is read, and stays. -/
structure MsgF (w : World) (N0 : Nat) (x : MV) : Prop where
  r : MsgR w x.m x.A x.c x.B x.d
  fa : RowF w N0 x.A (i64s x.m.told)
  fb : RowF w N0 x.B (opsC x.m.ops)
theorem MsgF.kept {w w' : World} {N0 : Nat} {x : MV} (h : MsgF w N0 x) (hk : Kept (MS w N0) w w') : MsgF w' N0 x :=
  ⟨⟨(h.fa.kept hk).1, (h.fb.kept hk).1, h.r.toldle, h.r.opsle, h.r.keys, h.r.toldok, h.r.opsok, h.r.nums⟩, h.fa.kept hk, h.fb.kept hk⟩
theorem MsgF.below {w w' : World} {N0 : Nat} {x : MV} (h : MsgF w N0 x) (hb : Below w.heap.size w w') : MsgF w' N0 x := h.kept (Kept.of_below _ hb)
end Go.Proofs.YteeiacfddjhhkaaGreatDoor
