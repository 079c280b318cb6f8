/- Calls that came in, opened. -/
import Derived.Test.YteeiacfddjhhkaaGreatDoorNear
import Derived.Test.YteeiacfddjhhkaaGreatDoorOpen
namespace Go.Proofs.YteeiacfddjhhkaaGreatDoor
open Go.ChangeShapes Go.WideShapes Go.RowKit
set_option maxRecDepth 100000

structure OpV where
  kind : Int
  near : Bool
  x : MV
  i : Int
  k : Int
def opvC (o : OpV) : List Value := (opA o.kind o.near o.x o.i o.k).toList
def opvsC (l : List OpV) : List Value := (l.map opvC).flatten
theorem opvC_len (o : OpV) : (opvC o).length = 15 := rfl
theorem opvsC_get : ∀ (l : List OpV) (k : Nat) (o : OpV) (j : Nat), l[k]? = some o → j < 15 → (opvsC l)[k * 15 + j]? = (opvC o)[j]?
  | [], k, o, j, h, _ => by simp at h
  | y :: l, 0, o, j, h, hj => by
    simp at h
    subst h
    show (opvC y ++ opvsC l)[0 * 15 + j]? = _
    rw [Nat.zero_mul, Nat.zero_add, List.getElem?_append_left (by rw [opvC_len]; exact hj)]
  | y :: l, k + 1, o, j, h, hj => by
    simp at h
    show (opvC y ++ opvsC l)[(k + 1) * 15 + j]? = _
    rw [List.getElem?_append_right (by rw [opvC_len]; omega), opvC_len, ← opvsC_get l k o j h hj]
    congr 1
    omega
theorem opvs_at {w : World} {A : Option Addr} {l : List OpV} (h : RowAt w A (opvsC l)) {k : Nat} {o : OpV} (hx : l[k]? = some o) :
    ∃ ad, A = some ad ∧ w.cell? (ad.add (k * 15)) = some (.int .i64 o.kind) ∧ w.cell? ⟨(ad.add (k * 15)).block, (ad.add (k * 15)).off + 1, none⟩ = some (.bool o.near) ∧ w.cell? ⟨(ad.add (k * 15)).block, (ad.add (k * 15)).off + 2, none⟩ = some (.int .i64 o.x.m.kind) ∧ w.cell? ⟨(ad.add (k * 15)).block, (ad.add (k * 15)).off + 3, none⟩ = some (.int .i64 o.x.m.from_) ∧ w.cell? ⟨(ad.add (k * 15)).block, (ad.add (k * 15)).off + 4, none⟩ = some (.int .i64 o.x.m.to_) ∧ w.cell? ⟨(ad.add (k * 15)).block, (ad.add (k * 15)).off + 5, none⟩ = some (.int .i64 o.x.m.g) ∧ w.cell? ⟨(ad.add (k * 15)).block, (ad.add (k * 15)).off + 6, none⟩ = some (.int .i64 o.x.m.node) ∧ w.cell? ⟨(ad.add (k * 15)).block, (ad.add (k * 15)).off + 7, none⟩ = some (.int .i64 o.x.m.try_) ∧ w.cell? ⟨(ad.add (k * 15)).block, (ad.add (k * 15)).off + 8, none⟩ = some (.int .i64 o.x.m.low) ∧ w.cell? ⟨(ad.add (k * 15)).block, (ad.add (k * 15)).off + 9, none⟩ = some (.int .i64 o.x.m.code) ∧ w.cell? ⟨(ad.add (k * 15)).block, (ad.add (k * 15)).off + 10, none⟩ = some (.int .i64 o.x.m.ticket) ∧ w.cell? ⟨(ad.add (k * 15)).block, (ad.add (k * 15)).off + 11, none⟩ = some (.slice o.x.A o.x.m.told.length o.x.c) ∧ w.cell? ⟨(ad.add (k * 15)).block, (ad.add (k * 15)).off + 12, none⟩ = some (.slice o.x.B o.x.m.ops.length o.x.d) ∧ w.cell? ⟨(ad.add (k * 15)).block, (ad.add (k * 15)).off + 13, none⟩ = some (.int .i64 o.i) ∧ w.cell? ⟨(ad.add (k * 15)).block, (ad.add (k * 15)).off + 14, none⟩ = some (.int .i64 o.k) := by
  obtain ⟨ad, hA, h0⟩ := h (k * 15) (.int .i64 o.kind) (opvsC_get l k o 0 hx (by omega))
  subst hA
  have g : ∀ j u, 0 < j → j < 15 → (opvC o)[j]? = some u → w.cell? ⟨(ad.add (k * 15)).block, (ad.add (k * 15)).off + j, none⟩ = some u := by
    intro j u h0 hj hu
    obtain ⟨ad', hA, hc⟩ := h (k * 15 + j) u (by rw [opvsC_get l k o j hx hj]; exact hu)
    cases hA
    rw [← add_off _ _ _ h0]
    exact hc
  exact ⟨ad, rfl, h0, g 1 _ (by omega) (by omega) rfl, g 2 _ (by omega) (by omega) rfl, g 3 _ (by omega) (by omega) rfl, g 4 _ (by omega) (by omega) rfl, g 5 _ (by omega) (by omega) rfl, g 6 _ (by omega) (by omega) rfl, g 7 _ (by omega) (by omega) rfl, g 8 _ (by omega) (by omega) rfl, g 9 _ (by omega) (by omega) rfl, g 10 _ (by omega) (by omega) rfl, g 11 _ (by omega) (by omega) rfl, g 12 _ (by omega) (by omega) rfl, g 13 _ (by omega) (by omega) rfl, g 14 _ (by omega) (by omega) rfl⟩
section
variable {H : Type} {enc : TypeId × Value → H} {w : World} {base : Nat} {sp : Nat → Bool} {held : Bool}
theorem Tryz.fsOpv : Tryz.prog.underlying 48 = some (.struct (Tryz.prog.fieldsOf 48)) := by kernel_rfl
theorem Tryz.fsOpv2 : (Tryz.prog.fieldsOf 48).map (fun f => (f.type, f.offset)) = #[(3, 0), (4, 1), (31, 2), (3, 13), (3, 14)] := by kernel_rfl
theorem Tryz.sizes2 : Tryz.prog.cellsOf 4 = 1 ∧ Tryz.prog.cellsOf 48 = 15 := by
  refine ⟨?_, ?_⟩ <;> kernel_rfl
theorem opv_part {fuel : Nat} {cs : List Value} {x : DataW H × List MemPlace} (h : DataW.trod enc Tryz.prog w base sp held fuel 48 cs = some x) : ∃ o : OpV, cs = opvC o ∧ InM w o.x := by
  obtain ⟨s1, s2, s3, s4, s5, s6, s7, s8⟩ := Tryz.sizes
  obtain ⟨t1, t2⟩ := Tryz.sizes2
  obtain ⟨xs, n, _, _, hl, _, _⟩ := DataW.trod_struct Tryz.fsOpv h
  rw [t2] at hl
  match cs, hl with
  | [a0, a1, a2, a3, a4, a5, a6, a7, a8, a9, a10, a11, a12, a13, a14], _ =>
    obtain ⟨n0, y0, h0⟩ := struct_part (j := 0) (tj := 3) (oj := 0) Tryz.fsOpv h (by rw [Tryz.fsOpv2]; rfl)
    obtain ⟨n1, y1, h1⟩ := struct_part (j := 1) (tj := 4) (oj := 1) Tryz.fsOpv h (by rw [Tryz.fsOpv2]; rfl)
    obtain ⟨n2, y2, h2⟩ := struct_part (j := 2) (tj := 31) (oj := 2) Tryz.fsOpv h (by rw [Tryz.fsOpv2]; rfl)
    obtain ⟨n3, y3, h3⟩ := struct_part (j := 3) (tj := 3) (oj := 13) Tryz.fsOpv h (by rw [Tryz.fsOpv2]; rfl)
    obtain ⟨n4, y4, h4⟩ := struct_part (j := 4) (tj := 3) (oj := 14) Tryz.fsOpv h (by rw [Tryz.fsOpv2]; rfl)
    rw [s1] at h0 h3 h4
    rw [t1] at h1
    rw [s8] at h2
    obtain ⟨i0, rfl, _⟩ := int_part (v := a0) Tryz.underlying3 h0
    obtain ⟨b1, hb1, _⟩ := DataW.trod_bool Tryz.underlying4 h1
    obtain ⟨y, hy, hM⟩ := msg_part h2
    obtain ⟨i3, rfl, _⟩ := int_part (v := a13) Tryz.underlying3 h3
    obtain ⟨i4, rfl, _⟩ := int_part (v := a14) Tryz.underlying3 h4
    refine ⟨⟨i0, b1, y, i3, i4⟩, ?_, hM⟩
    have e1 : a1 = .bool b1 := by simpa using hb1
    subst e1
    have e2 : [a2, a3, a4, a5, a6, a7, a8, a9, a10, a11, a12] = mvC y := hy
    show _ = [Value.int .i64 i0, .bool b1] ++ mvC y ++ [.int .i64 i3, .int .i64 i4]
    rw [← e2]
    rfl
theorem opvs_part {fuel : Nat} {v : Value} {x : DataW H × List MemPlace} (h : DataW.trod enc Tryz.prog w base sp held fuel 46 [v] = some x) : ∃ L cl, ∃ l : List OpV, v = .slice L l.length cl ∧ RowAt w L (opvsC l) ∧ l.length ≤ cl ∧ cl ≤ maxLen ∧ ∀ o ∈ l, InM w o.x :=
  row_part opvC (fun o => InM w o.x) 15 Tryz.sizes2.2 (by decide) (fun _ => rfl) Tryz.underlying46 (fun n cs y hy => opv_part hy) h
end
end Go.Proofs.YteeiacfddjhhkaaGreatDoor
