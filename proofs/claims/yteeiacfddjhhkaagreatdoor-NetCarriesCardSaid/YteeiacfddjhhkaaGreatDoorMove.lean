/- net.Move. -/
import Derived.Test.YteeiacfddjhhkaaGreatDoorApp
import Derived.Test.YteeiacfddjhhkaaGreatDoorInsert
namespace Go.Proofs.YteeiacfddjhhkaaGreatDoor
open Go.RowKit
set_option maxRecDepth 100000

theorem pksC_insert : ∀ (vs : List Value) (ks : List PK) (i : Nat) (v : Value) (k : PK), vs.length = ks.length → i ≤ ks.length → (pksC vs ks).take (i * 3) ++ [v, .int .i64 k.site, .int .i64 k.waits] ++ (pksC vs ks).drop (i * 3) = pksC (vs.insertIdx i v) (ks.insertIdx i k)
  | [], [], 0, _, _, _, _ => rfl
  | [], [], i + 1, _, _, _, h => by simp at h
  | [], _ :: _, _, _, _, h, _ => by simp at h
  | _ :: _, [], _, _, _, h, _ => by simp at h
  | v0 :: vs, k0 :: ks, 0, v, k, _, _ => by simp [pksC_cons]
  | v0 :: vs, k0 :: ks, i + 1, v, k, hl, hi => by
    have h := pksC_insert vs ks i v k (by simpa using hl) (by simpa using hi)
    rw [List.insertIdx_succ_cons, List.insertIdx_succ_cons, pksC_cons, pksC_cons, ← h]
    have e : (i + 1) * 3 = i * 3 + 3 := by omega
    rw [e]
    rfl
/-- A packet is set in. -/
theorem NetAt.inserted {w w9 : World} {p : Nat} {most : Int} {ks : List PK} {g c mb mk : Nat} {vs : List Value} {v1 : Value} {k : PK} {i : Nat}
    (h1 : w.heap[p]? = some (.cells #[.int .i64 most, .slice (some ⟨g, 0, none⟩) ks.length c, .map (some mb)] 71 (0, 0))) (h2 : w.heap[mb]? = some (.map #[] mk)) (h3 : mb < p) (h4 : w.ownsRow (p + 1) 77 3 (.slice (some ⟨g, 0, none⟩) ks.length c) ks.length (pksC vs ks)) (h5 : vs.length = ks.length)
    (h6 : ∀ (i : Nat) (v : Value) (k : PK), vs[i]? = some v → ks[i]? = some k → OB w (p + 1) v k.b ∧ k.b.length ≤ 100000 ∧ 0 ≤ k.waits ∧ k.waits ≤ 1000)
    (hO : w9.ownsRow (p + 1) 77 3 (.slice (some ⟨g, 0, none⟩) (ks.length + 1) c) (ks.length + 1) ((pksC vs ks).take (i * 3) ++ [v1, .int .i64 k.site, .int .i64 k.waits] ++ (pksC vs ks).drop (i * 3))) (hG : Kept (· = g) w w9) (hi : i ≤ ks.length)
    (hv : OB w (p + 1) v1 k.b) (hbl : k.b.length ≤ 100000) (hw0 : 0 ≤ k.waits) (hw1 : k.waits ≤ 1000) :
    NetAt (w9.setCell ⟨p, 1, none⟩ (.slice (some ⟨g, 0, none⟩) (ks.length + 1) c)) p most (ks.insertIdx i k) ∧ Kept (NS w p) w (w9.setCell ⟨p, 1, none⟩ (.slice (some ⟨g, 0, none⟩) (ks.length + 1) c)) := by
  have hpg := own_ge h4 g rfl
  obtain ⟨cur, hcur⟩ := own_type h4 (g := g) rfl
  have kB : Kept (NS w p) w w9 := hG.mono (fun q hq => by subst hq; exact ⟨by omega, cur, _, _, hcur, .inl rfl⟩)
  have h19 : w9.heap[p]? = some (.cells #[.int .i64 most, .slice (some ⟨g, 0, none⟩) ks.length c, .map (some mb)] 71 (0, 0)) := (hG.block p (lt_of_block h1) (by omega)).trans h1
  have h29 : w9.heap[mb]? = some (.map #[] mk) := (hG.block mb (lt_of_block h2) (by omega)).trans h2
  have kC : Kept (NS w9 p) w9 (w9.setCell ⟨p, 1, none⟩ (.slice (some ⟨g, 0, none⟩) (ks.length + 1) c)) := Kept.setCell (p := ⟨p, 1, none⟩) (Kept.refl _ w9) (.inl ⟨Nat.le_refl _, _, _, _, h19, .inr rfl⟩) _
  have kAll := KeptN_trans kB kC
  have hlen : (ks.insertIdx i k).length = ks.length + 1 := by rw [List.length_insertIdx_of_le_length hi]
  have hvlen : (vs.insertIdx i v1).length = ks.length + 1 := by rw [List.length_insertIdx_of_le_length (by omega), h5]
  refine ⟨⟨some ⟨g, 0, none⟩, c, mb, mk, vs.insertIdx i v1, ?_, ?_, h3, ?_, by rw [hlen, hvlen], ?_⟩, kAll⟩
  · rw [hlen]; exact block_setCell h19 1 _
  · rw [Below.heap_setCell _ _ _ _ (by show mb ≠ p; omega)]; exact h29
  · rw [hlen, ← pksC_insert vs ks i v1 k h5 hi]
    exact own_move hO fun q hq => Below.heap_setCell _ _ _ _ (by have := own_ge hO q hq; show q ≠ p; omega)
  · intro j v k' hv' hk'
    rcases Nat.lt_trichotomy j i with hj | hj | hj
    · rw [List.getElem?_insertIdx_of_lt hj] at hv' hk'
      obtain ⟨a1, a2⟩ := h6 j v k' hv' hk'
      exact ⟨a1.keptN kAll, a2⟩
    · subst hj
      rw [List.getElem?_insertIdx_self] at hv' hk'
      rw [if_pos (by omega)] at hv' hk'
      cases hv'
      cases hk'
      exact ⟨hv.keptN kAll, hbl, hw0, hw1⟩
    · rw [List.getElem?_insertIdx_of_gt hj] at hv' hk'
      obtain ⟨a1, a2⟩ := h6 (j - 1) v k' hv' hk'
      exact ⟨a1.keptN kAll, a2⟩
def moveL (ks : List PK) (i t : Nat) (k : PK) : List PK := (ks.eraseIdx i).insertIdx t k
theorem Move_ok (p : Nat) (most : Int) (ks : List PK) (i t : Nat) (k : PK) (w : World) (h : NetAt w p most ks) (hk : ks[i]? = some k) (ht : t < ks.length) (hl : ks.length ≤ 100000) :
    Calls Tryz.prog 21 #[.pointer (some ⟨p, 0, none⟩), .int .i64 i, .int .i64 t] w fun e w' => e = .returned (.int .i64 0) ∧ NetAt w' p most (moveL ks i t k) ∧ Kept (NS w p) w w' := by
  have hi : i < ks.length := (List.getElem?_eq_some_iff.1 hk).1
  have hN := Lib.hid h
  have hK := Lib.hid hk
  have hkb : k.b.length ≤ 100000 ∧ 0 ≤ k.waits ∧ k.waits ≤ 1000 := by
    obtain ⟨g, c, mb, mk, vs, v, h1, h2, h3, h4, h5, h6, hv, hov⟩ := h.row hk
    exact (h6 i v k hv hk).2
  clear h hk
  go_enter Tryz.func21, Tryz.ntmps21
  go_wp2_with fail
  refine (at_ok p most ks i _ hN.out hi).mono ?_
  rintro e w ⟨rfl, rfl⟩
  go_wp2_with fail
  refine (at_ok p most ks t _ hN.out ht).mono ?_
  rintro e w ⟨rfl, rfl⟩
  go_wp2_with fail
  refine (gone_cap p most ks i k _ hN.out hK.out hl).mono ?_
  rintro e w1 ⟨v, rfl, hov_, hN1_, hK1_, g, c, hc_, hnc⟩
  obtain ⟨A, d, rfl⟩ := own_slice hov_
  have hlen : (ks.eraseIdx i).length = ks.length - 1 := List.length_eraseIdx_of_lt hi
  obtain ⟨A', c', mb, mk, vs, h1, h2, h3, h4, h5, h6⟩ := hN1_
  have hcc : Value.slice A' (ks.eraseIdx i).length c' = .slice (some ⟨g, 0, none⟩) (ks.length - 1) c := by
    rw [block_cell h1] at hc_
    simpa using hc_
  rw [hlen] at hcc
  cases hcc
  have hov := Lib.hid hov_
  have hK1 := Lib.hid hK1_
  have hP := Lib.hid (And.intro h1 (And.intro h2 (And.intro h3 (And.intro h4 (And.intro h5 h6)))))
  have x1 := hc_
  clear hov_ hK1_ h1 h2 h3 h4 h5 h6 hc_
  go_wp2_with fail
  have hszW2 := World.size_alloc w1 (.cells #[.slice A k.b.length d, .int .i64 k.site, .int .i64 k.waits] 77)
  have hB2 := Lib.hid (below_alloc (Below.refl _ w1) (.cells #[.slice A k.b.length d, .int .i64 k.site, .int .i64 k.waits] 77))
  have hq := heap_alloc_new w1 (.cells #[.slice A k.b.length d, .int .i64 k.site, .int .i64 k.waits] 77)
  generalize w1.alloc (.cells #[.slice A k.b.length d, .int .i64 k.site, .int .i64 k.waits] 77) = W2 at *
  have hSb : Hid (∀ W : World, Below W2.heap.size W2 W → W.cell? ⟨p, 1, none⟩ = some (.slice (some ⟨g, 0, none⟩) (ks.length - 1) c) ∧ W.cell? ⟨w1.heap.size, 0, none⟩ = some (.slice A k.b.length d) ∧ W.cell? ⟨w1.heap.size, 1, none⟩ = some (.int .i64 k.site) ∧ W.cell? ⟨w1.heap.size, 2, none⟩ = some (.int .i64 k.waits)) := Lib.hid (fun W hb => by
    have e := block_below hb hq
    exact ⟨cell_below (bnext hB2.out hb) x1, by rw [block_cell e]; rfl, by rw [block_cell e]; rfl, by rw [block_cell e]; rfl⟩)
  have hBd : Hid (Below W2.heap.size W2 W2.drew) := Lib.hid (Below.refl _ W2).drew
  have hone : Hid (∀ u ∈ pksC vs (ks.eraseIdx i), u.oneCell' = true) := Lib.hid (pksC_one _ _ (NetAt.one hP.out.2.2.2.2.1 hP.out.2.2.2.2.2))
  have hgl := (hP.out.2.2.2.1.lt g rfl).2
  have hpg := own_ge hP.out.2.2.2.1 g rfl
  have hp1 : p < w1.heap.size := lt_of_block hP.out.1
  rw [hlen] at hP
  have ht2 : Hid (t ≤ ks.length - 1) := Lib.hid (by omega)
  have hl2 : Hid (ks.length - 1 ≤ 100000) := Lib.hid (by omega)
  have hr2 : Hid (ks.length - 1 + 1 ≤ c) := Lib.hid (by omega)
  have hvg : Hid (w1.heap.size + 1 ≠ g) := Lib.hid (by omega)
  obtain ⟨s1, s2, s3, s4⟩ := hSb.out W2 (Below.refl _ _)
  have hSi : Hid (∀ (W3 w9 : World), Below W2.heap.size W2 W3 → Kept (· = g) W3 w9 → (w9.cell? ⟨p, 1, none⟩ = some (.slice (some ⟨g, 0, none⟩) (ks.length - 1) c) ∧ w9.cell? ⟨w1.heap.size, 0, none⟩ = some (.slice A k.b.length d) ∧ w9.cell? ⟨w1.heap.size, 1, none⟩ = some (.int .i64 k.site) ∧ w9.cell? ⟨w1.heap.size, 2, none⟩ = some (.int .i64 k.waits)) ∧ w9.frozen? ⟨p, 1, none⟩ = false) := Lib.hid (fun W3 w9 hb hk => by
    have e1 := (hk.block _ (lt_of_block (block_below hb hq)) (by omega)).trans (block_below hb hq)
    have h1 := block_below (bnext hB2.out hb) hP.out.1
    have e2 := (hk.block _ (lt_of_block h1) (by omega)).trans h1
    exact ⟨⟨by rw [block_cell e2]; rfl, by rw [block_cell e1]; rfl, by rw [block_cell e1]; rfl, by rw [block_cell e1]; rfl⟩, block_free e2 1⟩)
  have hB3 := Lib.hid (below_alloc (Below.refl _ W2) (.cells #[.slice A k.b.length d, .int .i64 k.site, .int .i64 k.waits] 77)).drew
  have hins := Lib.hid (ins_any (p + 1) g c (ks.length - 1) t (w1.heap.size + 1) (pksC vs (ks.eraseIdx i)) [.slice A k.b.length d, .int .i64 k.site, .int .i64 k.waits] #[.slice A k.b.length d, .int .i64 k.site, .int .i64 k.waits] (W2.alloc (.cells #[.slice A k.b.length d, .int .i64 k.site, .int .i64 k.waits] 77)).drew (own_below hP.out.2.2.2.1 (bnext hB2.out hB3.out)) hone.out ht2.out hl2.out hr2.out hvg.out (by rw [← hszW2]; exact heap_alloc_new W2 _) rfl rfl (by simp [Value.oneCell']))
  clear hq x1
  go_region_held3 (fun w' => w'.cell? ⟨p, 1, none⟩ = some (.slice (some ⟨g, 0, none⟩) (ks.length - 1) c) ∧ w'.cell? ⟨w1.heap.size, 0, none⟩ = some (.slice A k.b.length d) ∧ w'.cell? ⟨w1.heap.size, 1, none⟩ = some (.int .i64 k.site) ∧ w'.cell? ⟨w1.heap.size, 2, none⟩ = some (.int .i64 k.waits))
    (first | exact hS9.out.1 | exact hSb.out _ hBd.out | exact hSb.out _ hB3.out | go_keep)
    ((first
      | (go_at_call 48; refine hins.out.mono ?_; rintro e w9 ⟨rfl, hO9_, hK9_⟩; have hS9 := Lib.hid (hSi.out _ _ hB3.out hK9_); have hO9 := Lib.hid hO9_; have hK9 := Lib.hid hK9_; clear hO9_ hK9_)))
  have t1 := hS9.out.1.1
  have t2 := hS9.out.2
  clear s1 s2 s3 s4
  go_wp2_with fail
  go_ret
  obtain ⟨h1, h2, h3, h4, h5, h6⟩ := hP.out
  have hb := bnext hB2.out hB3.out
  obtain ⟨kb1, kb2, kb3⟩ := hkb
  have hfin := NetAt.inserted (ks := ks.eraseIdx i) (k := k) (i := t) (most := most) (mb := mb) (by rw [hlen]; exact block_below hb h1) (block_below hb h2) h3 (by rw [hlen]; exact own_below h4 hb) (by rw [hlen]; exact h5) (fun j v k' hv hk' => ⟨(h6 j v k' hv hk').1.below hb, (h6 j v k' hv hk').2⟩) (by rw [hlen]; exact hO9.out) hK9.out (by rw [hlen]; exact ht2.out) (hov.out.below hb) kb1 kb2 kb3
  rw [hlen] at hfin
  exact ⟨rfl, hfin.1, KeptN_trans (KeptN_trans hK1.out (Kept.of_below _ hb)) hfin.2⟩
end Go.Proofs.YteeiacfddjhhkaaGreatDoor
