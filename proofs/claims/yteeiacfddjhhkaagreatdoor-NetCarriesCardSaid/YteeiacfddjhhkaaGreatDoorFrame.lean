/- The frame of the law's loops: which blocks may change; rows that stay. -/
import Derived.Test.YteeiacfddjhhkaaGreatDoorOpen
namespace Go.Proofs.YteeiacfddjhhkaaGreatDoor
open Go.RowKit
set_option maxRecDepth 100000

/-- Blocks of the law's own that change: from N0 on, of packets, nets, messages. -/
def MS (w : World) (N0 b : Nat) : Prop := N0 ≤ b ∧ ∃ cur T fr, w.heap[b]? = some (.cells cur T fr) ∧ (T = 77 ∨ T = 71 ∨ T = 31 ∨ T = 37 ∨ T = 48)
theorem MS.of_NS {w : World} {N0 p b : Nat} (hp : N0 ≤ p) (h : NS w p b) : MS w N0 b := by
  obtain ⟨h1, cur, T, fr, hb, hT⟩ := h
  exact ⟨by omega, cur, T, fr, hb, hT.elim .inl (fun h => .inr (.inl h))⟩
theorem KeptM_of_N {w w' : World} {N0 p : Nat} (hp : N0 ≤ p) (h : Kept (NS w p) w w') : Kept (MS w N0) w w' := h.mono (fun _ hk => MS.of_NS hp hk)
theorem KeptM_trans {N0 : Nat} {a b c : World} (h : Kept (MS a N0) a b) (k : Kept (MS b N0) b c) : Kept (MS a N0) a c :=
  h.trans k fun j hj hS => by
    by_cases hn : MS a N0 j
    · exact hn
    · obtain ⟨hp, cur, T, fr, hb, hT⟩ := hS
      exact ⟨hp, cur, T, fr, (h.block j hj hn).symm.trans hb, hT⟩
theorem KeptM_below {W a b : World} (hB : Below W.heap.size W a) (hk : Kept (MS a W.heap.size) a b) : Below W.heap.size W b :=
  hB.trans (hk.to_below hB.size (fun _ h => h.1))
/-- A row that stays. -/
def RowF (w : World) (N0 : Nat) (A : Option Addr) (cs : List Value) : Prop := RowAt w A cs ∧ (cs = [] ∨ ∀ ad, A = some ad → ¬ MS w N0 ad.block)
theorem RowF.kept {w w' : World} {N0 : Nat} {A : Option Addr} {cs : List Value} (h : RowF w N0 A cs) (hk : Kept (MS w N0) w w') : RowF w' N0 A cs := by
  obtain ⟨hr, hs⟩ := h
  by_cases hc : cs = []
  · subst hc
    exact ⟨RowAt.nil _ _, .inl rfl⟩
  · have hs := hs.resolve_left hc
    refine ⟨hr.kept hk hs, .inr fun ad hA hM => ?_⟩
    subst hA
    have hlt := hr.lt hc
    obtain ⟨h1, cur, T, fr, hb, hT⟩ := hM
    exact hs ad rfl ⟨h1, cur, T, fr, (hk.block _ hlt (hs ad rfl)).symm.trans hb, hT⟩
theorem RowF.notNS {w : World} {N0 p : Nat} {A : Option Addr} {cs : List Value} (h : RowF w N0 A cs) (hp : N0 ≤ p) : cs = [] ∨ ∀ ad, A = some ad → ¬ NS w p ad.block :=
  h.2.imp id fun h ad hA hn => h ad hA (MS.of_NS hp hn)
theorem RowF.of_old {w W : World} {A : Option Addr} {cs : List Value} (h : RowAt W A cs) (hB : Below W.heap.size W w) : RowF w W.heap.size A cs := by
  refine ⟨h.below hB, ?_⟩
  by_cases hc : cs = []
  · exact .inl hc
  · refine .inr fun ad hA hM => ?_
    subst hA
    have := h.lt hc
    have := hM.1
    omega
theorem RowF.of_own {w : World} {N0 base n c size : Nat} {T : TypeId} {A : Option Addr} {cs : List Value} (h : w.ownsRow base T size (.slice A n c) n cs)
    (hT : T ≠ 77 ∧ T ≠ 71 ∧ T ≠ 31 ∧ T ≠ 37 ∧ T ≠ 48) : RowF w N0 A cs := by
  refine ⟨RowAt.of_own h rfl, .inr fun ad hA hM => ?_⟩
  subst hA
  obtain ⟨cur, hc⟩ := own_type h (g := ad.block) rfl
  obtain ⟨_, cur', T', fr, hb, hT'⟩ := hM
  rw [hc] at hb
  simp only [Option.some.injEq, Obj.cells.injEq] at hb
  obtain ⟨_, rfl, _⟩ := hb
  rcases hT' with h | h | h | h | h
  · exact hT.1 h
  · exact hT.2.1 h
  · exact hT.2.2.1 h
  · exact hT.2.2.2.1 h
  · exact hT.2.2.2.2 h
/-- Owned rows of another kind stay. -/
theorem own_keptM {w w' : World} {N0 base n size : Nat} {T : TypeId} {v : Value} {xs : List Value} (h : w.ownsRow base T size v n xs) (hk : Kept (MS w N0) w w')
    (hT : T ≠ 77 ∧ T ≠ 71 ∧ T ≠ 31 ∧ T ≠ 37 ∧ T ≠ 48) : w'.ownsRow base T size v n xs :=
  own_move h fun q hq => by
    obtain ⟨cur, hc⟩ := own_type h hq
    refine hk.block q (lt_of_block hc) fun hM => ?_
    obtain ⟨_, cur', T', fr, hb, hT'⟩ := hM
    rw [hc] at hb
    simp only [Option.some.injEq, Obj.cells.injEq] at hb
    obtain ⟨_, rfl, _⟩ := hb
    rcases hT' with h | h | h | h | h
    · exact hT.1 h
    · exact hT.2.1 h
    · exact hT.2.2.1 h
    · exact hT.2.2.2.1 h
    · exact hT.2.2.2.2 h
/-- A row of the document's messages stays where only a net changes. -/
theorem own_keptN {w w' : World} {p base n size : Nat} {T : TypeId} {v : Value} {xs : List Value} (h : w.ownsRow base T size v n xs) (hk : Kept (NS w p) w w') (hT : T ≠ 77 ∧ T ≠ 71) : w'.ownsRow base T size v n xs :=
  own_move h fun q hq => by
    obtain ⟨cur, hc⟩ := own_type h hq
    refine hk.block q (lt_of_block hc) fun hM => ?_
    obtain ⟨_, cur', T', fr, hb, hT'⟩ := hM
    rw [hc] at hb
    simp only [Option.some.injEq, Obj.cells.injEq] at hb
    obtain ⟨_, rfl, _⟩ := hb
    rcases hT' with h | h
    · exact hT.1 h
    · exact hT.2 h
/-- A message of the law's: it is read, and stays. -/
structure MsgF (w : World) (N0 : Nat) (x : MV) : Prop where
  r : MsgR w x.m x.A x.c x.B x.d
  fa : RowF w N0 x.A (i64s x.m.told)
  fb : RowF w N0 x.B (opsC x.m.ops)
theorem MsgF.kept {w w' : World} {N0 : Nat} {x : MV} (h : MsgF w N0 x) (hk : Kept (MS w N0) w w') : MsgF w' N0 x :=
  ⟨⟨(h.fa.kept hk).1, (h.fb.kept hk).1, h.r.toldle, h.r.opsle, h.r.keys, h.r.toldok, h.r.opsok, h.r.nums⟩, h.fa.kept hk, h.fb.kept hk⟩
theorem MsgF.below {w w' : World} {N0 : Nat} {x : MV} (h : MsgF w N0 x) (hb : Below w.heap.size w w') : MsgF w' N0 x := h.kept (Kept.of_below _ hb)
end Go.Proofs.YteeiacfddjhhkaaGreatDoor
