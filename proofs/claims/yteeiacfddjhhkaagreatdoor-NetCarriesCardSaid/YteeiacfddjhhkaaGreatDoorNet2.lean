/- A net's packets as cells; Len, Hold. -/
import Derived.Test.YteeiacfddjhhkaaGreatDoorDel0
import Derived.Laws.OwnMore
namespace Go.Proofs.YteeiacfddjhhkaaGreatDoor
open Go.RowKit
set_option maxRecDepth 100000

theorem pksC_cons (v : Value) (vs : List Value) (k : PK) (ks : List PK) : pksC (v :: vs) (k :: ks) = v :: .int .i64 k.site :: .int .i64 k.waits :: pksC vs ks := rfl
theorem pksC_get : ∀ (vs : List Value) (ks : List PK) (i : Nat) (v : Value) (k : PK), vs[i]? = some v → ks[i]? = some k → (pksC vs ks)[i * 3]? = some v ∧ (pksC vs ks)[i * 3 + 1]? = some (.int .i64 k.site) ∧ (pksC vs ks)[i * 3 + 2]? = some (.int .i64 k.waits)
  | [], _, i, v, k, h, _ => by simp at h
  | _ :: _, [], i, v, k, _, h => by simp at h
  | v0 :: vs, k0 :: ks, 0, v, k, hv, hk => by
    simp at hv hk
    subst hv hk
    rw [pksC_cons]
    exact ⟨rfl, rfl, rfl⟩
  | v0 :: vs, k0 :: ks, i + 1, v, k, hv, hk => by
    simp at hv hk
    have h := pksC_get vs ks i v k hv hk
    rw [pksC_cons]
    have e : (i + 1) * 3 = i * 3 + 3 := by omega
    rw [e]
    exact h
theorem pksC_wait : ∀ (vs : List Value) (ks : List PK) (i : Nat) (k : PK) (t : Int), vs.length = ks.length → ks[i]? = some k → (pksC vs ks).set (i * 3 + 2) (.int .i64 t) = pksC vs (ks.set i { k with waits := t })
  | [], [], i, k, t, _, h => by simp at h
  | [], _ :: _, i, k, t, h, _ => by simp at h
  | _ :: _, [], i, k, t, h, _ => by simp at h
  | v0 :: vs, k0 :: ks, 0, k, t, hl, hk => by
    simp at hk
    subst hk
    rfl
  | v0 :: vs, k0 :: ks, i + 1, k, t, hl, hk => by
    simp at hk hl
    have h := pksC_wait vs ks i k t hl hk
    rw [List.set_cons_succ, pksC_cons, pksC_cons, ← h]
    have e : (i + 1) * 3 + 2 = i * 3 + 2 + 3 := by omega
    rw [e]
    rfl
theorem Len_net (p : Nat) (most : Int) (ks : List PK) (w : World) (h : NetAt w p most ks) :
    Calls Tryz.prog 14 #[.pointer (some ⟨p, 0, none⟩)] w fun e w' => e = .returned (.int .i64 ks.length) ∧ w' = w := by
  obtain ⟨A, c, mb, mk, vs, hb, _⟩ := h
  have x1 : w.cell? ⟨p, 1, none⟩ = some (.slice A ks.length c) := by rw [block_cell hb]; rfl
  clear hb
  go_enter Tryz.func14, Tryz.ntmps14
  go_wp2_with fail
  go_ret
  exact ⟨rfl, rfl⟩
/-- A store into the packets' row. -/
theorem NetAt.waits {w : World} {p : Nat} {most : Int} {ks : List PK} {g c mb mk : Nat} {vs : List Value} {i : Nat} {k : PK} {t : Int}
    (h1 : w.heap[p]? = some (.cells #[.int .i64 most, .slice (some ⟨g, 0, none⟩) ks.length c, .map (some mb)] 71 (0, 0))) (h2 : w.heap[mb]? = some (.map #[] mk)) (h3 : mb < p) (h4 : w.ownsRow (p + 1) 77 3 (.slice (some ⟨g, 0, none⟩) ks.length c) ks.length (pksC vs ks)) (h5 : vs.length = ks.length)
    (h6 : ∀ (i : Nat) (v : Value) (k : PK), vs[i]? = some v → ks[i]? = some k → OB w (p + 1) v k.b ∧ k.b.length ≤ 100000 ∧ 0 ≤ k.waits ∧ k.waits ≤ 1000) (hk : ks[i]? = some k) (ht : 0 ≤ t ∧ t ≤ 1000) :
    NetAt (w.setCell ⟨g, i * 3 + 2, none⟩ (.int .i64 t)) p most (ks.set i { k with waits := t }) ∧ Kept (NS w p) w (w.setCell ⟨g, i * 3 + 2, none⟩ (.int .i64 t)) := by
  have hg := own_ge h4 g rfl
  obtain ⟨ho, hgr⟩ := h4.stored (i * 3 + 2) (.int .i64 t)
  rw [pksC_wait vs ks i k t h5 hk] at ho
  have hfar : ∀ j, j ≠ g → (w.setCell ⟨g, i * 3 + 2, none⟩ (.int .i64 t)).heap[j]? = w.heap[j]? := fun j hj => Below.heap_setCell _ _ _ _ (by simpa using hj)
  have hrow : ∃ cur, w.heap[g]? = some (.cells cur 77 (0, 0)) := by
    rcases h4.2 with ⟨h', _⟩ | ⟨g', cap', cur, h', _, hg', _⟩
    · simp at h'
    · simp only [Value.slice.injEq, Option.some.injEq, Addr.mk.injEq, and_true, true_and] at h'
      obtain ⟨rfl, rfl⟩ := h'
      exact ⟨cur, hg'⟩
  obtain ⟨cur, hcur⟩ := hrow
  refine ⟨⟨some ⟨g, 0, none⟩, c, mb, mk, vs, ?_, ?_, h3, ?_, ?_, ?_⟩, ?_⟩
  · rw [List.length_set, hfar p (by omega)]; exact h1
  · rw [hfar mb (by omega)]; exact h2
  · rw [List.length_set]; exact ho
  · rw [List.length_set]; exact h5
  · intro j v k' hv hk'
    have hmove : ∀ (b : List UInt8), OB w (p + 1) v b → OB (w.setCell ⟨g, i * 3 + 2, none⟩ (.int .i64 t)) (p + 1) v b := fun b hb => own_move hb fun q hq => hfar q (by
      rintro rfl
      rcases hb.2 with ⟨rfl, _⟩ | ⟨g', cap', cur', rfl, _, hg', _⟩
      · simp [Value.ownBlock] at hq
      · simp [Value.ownBlock] at hq
        subst hq
        rw [hcur] at hg'
        simp at hg')
    rw [List.getElem?_set] at hk'
    split at hk'
    · rename_i hij
      subst hij
      split at hk'
      · simp at hk'
        subst hk'
        obtain ⟨a1, a2, a3, a4⟩ := h6 i v k hv hk
        exact ⟨hmove _ a1, a2, ht.1, ht.2⟩
      · simp at hk'
    · obtain ⟨a1, a2, a3, a4⟩ := h6 j v k' hv hk'
      exact ⟨hmove _ a1, a2, a3, a4⟩
  · exact Kept.setCell (S := NS w p) (p := ⟨g, i * 3 + 2, none⟩) (Kept.refl _ _) (.inl ⟨by show p ≤ g; omega, cur, _, _, hcur, .inl rfl⟩) _
theorem Hold_ok (p : Nat) (most : Int) (ks : List PK) (i : Nat) (k : PK) (t : Int) (w : World) (h : NetAt w p most ks) (hk : ks[i]? = some k) (ht : 0 ≤ t ∧ t ≤ 1000) :
    Calls Tryz.prog 22 #[.pointer (some ⟨p, 0, none⟩), .int .i64 i, .int .i64 t] w fun e w' => e = .returned (.int .i64 0) ∧ NetAt w' p most (ks.set i { k with waits := t }) ∧ Kept (NS w p) w w' := by
  have hi : i < ks.length := (List.getElem?_eq_some_iff.1 hk).1
  have hN := Lib.hid h
  obtain ⟨A, c, mb, mk, vs, h1, h2, h3, h4, h5, h6⟩ := h
  obtain ⟨g, cap, hA⟩ : ∃ g cap, Value.slice A ks.length c = .slice (some ⟨g, 0, none⟩) ks.length cap := by
    rcases h4.2 with ⟨_, h'⟩ | ⟨g', cap', cur, h', _⟩
    · omega
    · exact ⟨g', cap', h'⟩
  cases hA
  have hv : vs[i]? = some vs[i] := List.getElem?_eq_getElem (by omega)
  have hend := Lib.hid (NetAt.waits (t := t) h1 h2 h3 h4 h5 h6 hk ht)
  have x1 : w.cell? ⟨p, 1, none⟩ = some (.slice (some ⟨g, 0, none⟩) ks.length c) := by rw [block_cell h1]; rfl
  have y2 : w.cell? ⟨g, i * 3 + 2, none⟩ = some (.int .i64 k.waits) := by rw [h4.cellAt _ (by omega)]; exact (pksC_get vs ks i _ k hv hk).2.2
  have z2 : w.frozen? ⟨g, i * 3 + 2, none⟩ = false := h4.frozenAt _
  have d1 : decide (t < 0) = false := by simp; omega
  have d2 : decide (1000 < t) = false := by simp; omega
  clear h1 h2 h3 h4 h5 h6 hk hv
  go_enter Tryz.func22, Tryz.ntmps22
  go_wp2_with fail
  refine (at_ok p most ks i _ hN.out hi).mono ?_
  rintro e w1 ⟨rfl, rfl⟩
  go_wp2_with fail
  go_ret
  exact ⟨rfl, hend.out.1, hend.out.2⟩
end Go.Proofs.YteeiacfddjhhkaaGreatDoor
