/- net.Twice. -/
import Derived.Test.YteeiacfddjhhkaaGreatDoorApp
import Derived.Test.YteeiacfddjhhkaaGreatDoorOne
import Derived.Test.YteeiacfddjhhkaaGreatDoorSplit
namespace Go.Proofs.YteeiacfddjhhkaaGreatDoor
open Go.RowKit
set_option maxRecDepth 100000
variable {cz : Cuts}

def twiceK (k : PK) : PK := { k with waits := 0 }
set_option maxHeartbeats 8000000 in
theorem Twice_ok (p : Nat) (most : Int) (ks : List PK) (i : Nat) (k : PK) (w : World) (h : NetAt cz w p most ks) (hk : ks[i]? = some k) (hl : ks.length ≤ 100000) (hm : (ks.length : Int) < most) :
    Calls Tryz.prog 20 #[.pointer (some ⟨p, 0, none⟩), .int .i64 i] w fun e w' => e = .returned (.int .i64 0) ∧ NetAt cz w' p most (ks ++ [twiceK k]) ∧ Kept (NS w p) w w' := by
  have hi : i < ks.length := (List.getElem?_eq_some_iff.1 hk).1
  have hN := Lib.hid h
  obtain ⟨g, c, mb, mk, vs, v, h1, h2, h3, h4, h5, h6, hv, hov⟩ := h.row hk
  have x0 : w.cell? ⟨p, 0, none⟩ = some (.int .i64 most) := by rw [block_cell h1]; rfl
  have x1 : w.cell? ⟨p, 1, none⟩ = some (.slice (some ⟨g, 0, none⟩) ks.length c) := by rw [block_cell h1]; rfl
  have f1 : w.frozen? ⟨p, 1, none⟩ = false := block_free h1 1
  have y0 : w.cell? ⟨g, i * 3, none⟩ = some v := by rw [h4.cellAt _ (by omega)]; exact (pksC_get vs ks i _ k hv hk).1
  have y1 : w.cell? ⟨g, i * 3 + 1, none⟩ = some (.int .i64 k.site) := by rw [h4.cellAt _ (by omega)]; exact (pksC_get vs ks i _ k hv hk).2.1
  have hbl := (h6 i v k hv hk).2.1
  obtain ⟨A, d, rfl⟩ := own_slice hov
  have hH := Lib.hid (And.intro h1 (And.intro h2 (And.intro h3 (And.intro h4 (And.intro h5 (And.intro h6 (And.intro hv (And.intro hov hk))))))))
  have d1 : decide (most ≤ ks.length) = false := by simp; omega
  clear h h1 h2 h3 h4 h5 h6 hv hov hk
  generalize hbn : k.b.length = bl at *
  generalize hks : k.site = ksite at *
  have hBN := Lib.hid hbn
  have hKS := Lib.hid hks
  clear hbn hks
  go_enter Tryz.func20, Tryz.ntmps20
  go_wp2_with fail
  refine (at_ok p most ks i _ hN.out hi).mono ?_
  rintro e wr ⟨rfl, hwr⟩
  subst hwr
  obtain ⟨w, hw⟩ : ∃ w, w = wr := ⟨_, rfl⟩
  subst hw
  go_wp2_with fail
  go_quiet (fail)
  go_wp2_with fail
  obtain ⟨w0, hw0⟩ : ∃ w0, w0 = w.drewN nq := ⟨_, rfl⟩
  rw [← hw0]
  have hB0 : Hid (Below w.heap.size w w0.drew) := Lib.hid (by rw [hw0]; exact (below_drewN (Below.refl _ w) nq).drew)
  have a1 : w0.cell? ⟨p, 1, none⟩ = some (.slice (some ⟨g, 0, none⟩) ks.length c) := cell_below hB0.out x1
  have a2 : w0.cell? ⟨g, i * 3, none⟩ = some (.slice A bl d) := cell_below hB0.out y0
  have a3 : w0.cell? ⟨g, i * 3 + 1, none⟩ = some (.int .i64 ksite) := cell_below hB0.out y1
  have a4 : w0.frozen? ⟨p, 1, none⟩ = false := block_free (block_below hB0.out hH.out.1) 1
  have hrb : Hid (RB w0.drew (.slice A bl d) k.b) := Lib.hid (RB.of_own (hH.out.2.2.2.2.2.2.2.1.below hB0.out))
  have hbk : Hid (k.b.length ≤ 1000000) := Lib.hid (by have := hBN.out; omega)
  have hb40 : Hid ((ks.length + 1) * 40 ≤ 140737488355328) := Lib.hid (by omega)
  have hpw : Hid (p + 1 ≤ w.heap.size) := Lib.hid (lt_of_block hH.out.1)
  have hne : Hid (some p ≠ some g) := Lib.hid (fun h => by have := own_ge hH.out.2.2.2.1 g rfl; simp at h; omega)
  have hget := Lib.hid (pksC_get vs ks i _ k hH.out.2.2.2.2.2.2.1 hH.out.2.2.2.2.2.2.2.2)
  rw [hKS.out] at hget
  have hS : ∀ w1 w9 : World, w.heap.size ≤ w1.heap.size → Below w.heap.size w w1 → w1.grownBy w9 (some g) → (∀ j u, (pksC vs ks)[j]? = some u → w9.cell? ⟨g, j, none⟩ = some u) → w9.cell? ⟨p, 1, none⟩ = some (.slice (some ⟨g, 0, none⟩) ks.length c) ∧ w9.cell? ⟨g, i * 3, none⟩ = some (.slice A bl d) ∧ w9.cell? ⟨g, i * 3 + 1, none⟩ = some (.int .i64 ksite) ∧ w9.frozen? ⟨p, 1, none⟩ = false := by
    intro w1 w9 hz hb hg hc
    have h1 := block_below hb hH.out.1
    have h2 := (hg.block p (lt_of_block h1) hne.out).trans h1
    exact ⟨by rw [block_cell h2]; rfl, hc _ _ hget.out.1, hc _ _ hget.out.2.1, block_free h2 1⟩
  have hSH := Lib.hid hS
  have hSb : Hid (∀ w1 : World, Below w.heap.size w w1 → w1.cell? ⟨p, 1, none⟩ = some (.slice (some ⟨g, 0, none⟩) ks.length c) ∧ w1.cell? ⟨g, i * 3, none⟩ = some (.slice A bl d) ∧ w1.cell? ⟨g, i * 3 + 1, none⟩ = some (.int .i64 ksite) ∧ w1.frozen? ⟨p, 1, none⟩ = false) :=
    Lib.hid (fun w1 hb => ⟨cell_below hb x1, cell_below hb y0, cell_below hb y1, block_free (block_below hb hH.out.1) 1⟩)
  clear x0 x1 f1 y0 y1 hw0 hS
  have hpg : p ≠ g := fun h => hne.out (by rw [h])
  refine wp_region_split (S := fun w' : World => w'.cell? ⟨p, 1, none⟩ = some (.slice (some ⟨g, 0, none⟩) ks.length c) ∧ w'.cell? ⟨g, i * 3, none⟩ = some (.slice A bl d) ∧ w'.cell? ⟨g, i * 3 + 1, none⟩ = some (.int .i64 ksite) ∧ w'.frozen? ⟨p, 1, none⟩ = false) 25 (by kernel_rfl) (by kernel_rfl) (hSb.out _ hB0.out) (fun hS0 => ?_)
  simp only [List.take_succ_cons, List.take_zero, List.drop_succ_cons, List.drop_zero]
  refine wpAnyH_take (i := 0) (v := ?_) rfl (by kernel_rfl) (by kernel_rfl) (by kernel_rfl) (fun _ _ _ h => h) (Or.inl ⟨by rfl, ?_⟩) (by assumption) ?_
  rotate_left
  · intro w' hSw
    obtain ⟨q1, q2, q3, q4⟩ := hSw
    go_simp
    try with_reducible rfl
  simp only [Act.put, List.setIfInBounds_toArray, List.set_cons_zero, List.set_cons_succ]
  refine wpAnyH_take (i := 1) (v := ?_) rfl (by kernel_rfl) (by kernel_rfl) (by kernel_rfl) (fun _ _ _ h => h) (Or.inl ⟨by rfl, ?_⟩) (by assumption) ?_
  rotate_left
  · intro w' hSw
    obtain ⟨q1, q2, q3, q4⟩ := hSw
    go_simp
    try with_reducible rfl
  simp only [Act.put, List.setIfInBounds_toArray, List.set_cons_zero, List.set_cons_succ]
  refine wpAnyH_take (i := 2) (v := ?_) rfl (by kernel_rfl) (by kernel_rfl) (by kernel_rfl) (fun _ _ _ h => h) (Or.inl ⟨by rfl, ?_⟩) (by assumption) ?_
  rotate_left
  · intro w' hSw
    obtain ⟨q1, q2, q3, q4⟩ := hSw
    go_simp
    try with_reducible rfl
  simp only [Act.put, List.setIfInBounds_toArray, List.set_cons_zero, List.set_cons_succ]
  refine wpAnyH_take (i := 3) (v := ?_) rfl (by kernel_rfl) (by kernel_rfl) (by kernel_rfl) (fun _ _ _ h => h) (Or.inl ⟨by rfl, ?_⟩) (by assumption) ?_
  rotate_left
  · intro w' hSw
    obtain ⟨q1, q2, q3, q4⟩ := hSw
    go_simp
    try with_reducible rfl
  simp only [Act.put, List.setIfInBounds_toArray, List.set_cons_zero, List.set_cons_succ]
  refine wpAnyH_take (i := 4) (v := ?_) rfl (by kernel_rfl) (by kernel_rfl) (by kernel_rfl) (fun _ _ _ h => h) (Or.inl ⟨by rfl, ?_⟩) (by assumption) ?_
  rotate_left
  · intro w' hSw
    obtain ⟨q1, q2, q3, q4⟩ := hSw
    go_simp
    try with_reducible rfl
  simp only [Act.put, List.setIfInBounds_toArray, List.set_cons_zero, List.set_cons_succ]
  refine wpAnyH_take (i := 5) (v := ?_) rfl (by kernel_rfl) (by kernel_rfl) (by kernel_rfl) (fun _ _ _ h => h) (Or.inl ⟨by rfl, ?_⟩) (by assumption) ?_
  rotate_left
  · intro w' hSw
    obtain ⟨q1, q2, q3, q4⟩ := hSw
    go_simp
    try with_reducible rfl
  simp only [Act.put, List.setIfInBounds_toArray, List.set_cons_zero, List.set_cons_succ]
  refine wpAnyH_take (i := 6) (v := ?_) rfl (by kernel_rfl) (by kernel_rfl) (by kernel_rfl) (fun _ _ _ h => h) (Or.inl ⟨by rfl, ?_⟩) (by assumption) ?_
  rotate_left
  · intro w' hSw
    obtain ⟨q1, q2, q3, q4⟩ := hSw
    go_simp
    try with_reducible rfl
  simp only [Act.put, List.setIfInBounds_toArray, List.set_cons_zero, List.set_cons_succ]
  refine wpAnyH_take (i := 7) (v := ?_) rfl (by kernel_rfl) (by kernel_rfl) (by kernel_rfl) (fun _ _ _ h => h) (Or.inl ⟨by rfl, ?_⟩) (by assumption) ?_
  rotate_left
  · intro w' hSw
    obtain ⟨q1, q2, q3, q4⟩ := hSw
    go_simp
    try with_reducible rfl
  simp only [Act.put, List.setIfInBounds_toArray, List.set_cons_zero, List.set_cons_succ]
  refine wpAnyH_take (i := 8) (v := ?_) rfl (by kernel_rfl) (by kernel_rfl) (by kernel_rfl) (fun _ _ _ h => h) (Or.inl ⟨by rfl, ?_⟩) (by assumption) ?_
  rotate_left
  · intro w' hSw
    obtain ⟨q1, q2, q3, q4⟩ := hSw
    go_simp
    try with_reducible rfl
  simp only [Act.put, List.setIfInBounds_toArray, List.set_cons_zero, List.set_cons_succ]
  refine wpAnyH_take (i := 9) (v := ?_) rfl (by kernel_rfl) (by kernel_rfl) (by kernel_rfl) (fun _ _ _ h => h) (Or.inl ⟨by rfl, ?_⟩) (by assumption) ?_
  rotate_left
  · intro w' hSw
    obtain ⟨q1, q2, q3, q4⟩ := hSw
    go_simp
    try with_reducible rfl
  simp only [Act.put, List.setIfInBounds_toArray, List.set_cons_zero, List.set_cons_succ]
  refine wpAnyH_take (i := 10) (v := ?_) rfl (by kernel_rfl) (by kernel_rfl) (by kernel_rfl) (fun _ _ _ h => h) (Or.inl ⟨by rfl, ?_⟩) (by assumption) ?_
  rotate_left
  · intro w' hSw
    obtain ⟨q1, q2, q3, q4⟩ := hSw
    go_simp
    try with_reducible rfl
  simp only [Act.put, List.setIfInBounds_toArray, List.set_cons_zero, List.set_cons_succ]
  refine wpAnyH_take (i := 11) (v := ?_) rfl (by kernel_rfl) (by kernel_rfl) (by kernel_rfl) (fun _ _ _ h => h) (Or.inl ⟨by rfl, ?_⟩) (by assumption) ?_
  rotate_left
  · intro w' hSw
    obtain ⟨q1, q2, q3, q4⟩ := hSw
    go_simp
    try with_reducible rfl
  simp only [Act.put, List.setIfInBounds_toArray, List.set_cons_zero, List.set_cons_succ]
  refine wpAnyH_take (i := 12) (v := ?_) rfl (by kernel_rfl) (by kernel_rfl) (by kernel_rfl) (fun _ _ _ h => h) (Or.inl ⟨by rfl, ?_⟩) (by assumption) ?_
  rotate_left
  · intro w' hSw
    obtain ⟨q1, q2, q3, q4⟩ := hSw
    go_simp
    try with_reducible rfl
  simp only [Act.put, List.setIfInBounds_toArray, List.set_cons_zero, List.set_cons_succ]
  refine wpAnyH_take (i := 14) (v := ?_) rfl (by kernel_rfl) (by kernel_rfl) (by kernel_rfl) (fun _ _ _ h => h) (Or.inl ⟨by rfl, ?_⟩) (by assumption) ?_
  rotate_left
  · intro w' hSw
    obtain ⟨q1, q2, q3, q4⟩ := hSw
    go_simp
    try with_reducible rfl
  simp only [Act.put, List.setIfInBounds_toArray, List.set_cons_zero, List.set_cons_succ]
  refine wpAnyH_take (i := 15) (v := ?_) rfl (by kernel_rfl) (by kernel_rfl) (by kernel_rfl) (fun _ _ _ h => h) (Or.inl ⟨by rfl, ?_⟩) (by assumption) ?_
  rotate_left
  · intro w' hSw
    obtain ⟨q1, q2, q3, q4⟩ := hSw
    go_simp
    try with_reducible rfl
  simp only [Act.put, List.setIfInBounds_toArray, List.set_cons_zero, List.set_cons_succ]
  refine wpAnyH_take (i := 16) (v := ?_) rfl (by kernel_rfl) (by kernel_rfl) (by kernel_rfl) (fun _ _ _ h => h) (Or.inl ⟨by rfl, ?_⟩) (by assumption) ?_
  rotate_left
  · intro w' hSw
    obtain ⟨q1, q2, q3, q4⟩ := hSw
    go_simp
    try with_reducible rfl
  simp only [Act.put, List.setIfInBounds_toArray, List.set_cons_zero, List.set_cons_succ]
  refine wpAnyH_take (i := 17) (v := ?_) rfl (by kernel_rfl) (by kernel_rfl) (by kernel_rfl) (fun _ _ _ h => h) (Or.inl ⟨by rfl, ?_⟩) (by assumption) ?_
  rotate_left
  · intro w' hSw
    obtain ⟨q1, q2, q3, q4⟩ := hSw
    go_simp
    try with_reducible rfl
  simp only [Act.put, List.setIfInBounds_toArray, List.set_cons_zero, List.set_cons_succ]
  refine wpAnyH_take (i := 18) (v := ?_) rfl (by kernel_rfl) (by kernel_rfl) (by kernel_rfl) (fun _ _ _ h => h) (Or.inl ⟨by rfl, ?_⟩) (by assumption) ?_
  rotate_left
  · intro w' hSw
    obtain ⟨q1, q2, q3, q4⟩ := hSw
    go_simp
    try with_reducible rfl
  simp only [Act.put, List.setIfInBounds_toArray, List.set_cons_zero, List.set_cons_succ]
  refine wpAnyH_take (i := 19) (v := ?_) rfl (by kernel_rfl) (by kernel_rfl) (by kernel_rfl) (fun _ _ _ h => h) (Or.inl ⟨by rfl, ?_⟩) (by assumption) ?_
  rotate_left
  · intro w' hSw
    obtain ⟨q1, q2, q3, q4⟩ := hSw
    go_simp
    try with_reducible rfl
  simp only [Act.put, List.setIfInBounds_toArray, List.set_cons_zero, List.set_cons_succ]
  refine wpAnyH_take (i := 20) (v := ?_) rfl (by kernel_rfl) (by kernel_rfl) (by kernel_rfl) (fun _ _ _ h => h) (Or.inl ⟨by rfl, ?_⟩) (by assumption) ?_
  rotate_left
  · intro w' hSw
    obtain ⟨q1, q2, q3, q4⟩ := hSw
    go_simp
    try with_reducible rfl
  simp only [Act.put, List.setIfInBounds_toArray, List.set_cons_zero, List.set_cons_succ]
  refine wpAnyH_take (i := 21) (v := ?_) rfl (by kernel_rfl) (by kernel_rfl) (by kernel_rfl) (fun _ _ _ h => h) (Or.inl ⟨by rfl, ?_⟩) (by assumption) ?_
  rotate_left
  · intro w' hSw
    obtain ⟨q1, q2, q3, q4⟩ := hSw
    go_simp
    try with_reducible rfl
  simp only [Act.put, List.setIfInBounds_toArray, List.set_cons_zero, List.set_cons_succ]
  refine wpAnyH_ready (rs := [13]) (by kernel_rfl) (by simp) ?_
  refine AllReadyH.cons rfl (fun K hK => ?_) AllReadyH.nil
  go_simp
  refine (clone_any _ k.b _ hrb.out hbk.out).mono ?_
  rintro e w1 ⟨A1, d1, rfl, hO1_, hB1_⟩
  have hO1 := Lib.hid hO1_
  have hB1 := Lib.hid (bnext hB0.out hB1_)
  clear hO1_ hB1_
  refine hK.out _ _ (hSb.out _ hB1.out) (fun hS1 => ?_)
  clear hK K
  try simp only [Act.put, List.setIfInBounds_toArray, List.set_cons_zero, List.set_cons_succ]
  refine wpAnyH_take (i := 22) (v := ?_) rfl (by kernel_rfl) (by kernel_rfl) (by kernel_rfl) (fun _ _ _ h => h) (Or.inl ⟨by rfl, ?_⟩) (by assumption) ?_
  rotate_left
  · intro w' hSw
    obtain ⟨q1, q2, q3, q4⟩ := hSw
    go_simp
    try with_reducible rfl
  simp only [Act.put, List.setIfInBounds_toArray, List.set_cons_zero, List.set_cons_succ]
  refine wpAnyH_ready (rs := [23]) (by kernel_rfl) (by simp) ?_
  refine AllReadyH.cons rfl (fun K hK => ?_) AllReadyH.nil
  go_simp
  refine hK.out _ _ (hSb.out _ (below_alloc hB1.out _)) (fun hS2 => ?_)
  clear hK K
  try simp only [Act.put, List.setIfInBounds_toArray, List.set_cons_zero, List.set_cons_succ]
  refine wpAnyH_ready (rs := [24]) (by kernel_rfl) (by simp) ?_
  refine AllReadyH.cons rfl (fun K hK => ?_) AllReadyH.nil
  refine step_of_wp rfl ?_
  refine wp_append_keep _ _ 69 rfl (p + 1) 77 (.agg #[.slice none 0 0, .int .i64 0, .int .i64 0]) 3 40 Tryz.underlying69 Tryz.infoPk rfl (by decide) (by decide) (.slice (some ⟨g, 0, none⟩) ks.length c) ks.length (pksC vs ks) rfl (own_below hH.out.2.2.2.1 (below_alloc hB1.out _)) ⟨w1.heap.size, 0, none⟩ 1 1 [.slice A1 k.b.length d1, .int .i64 ksite, .int .i64 0] rfl rfl (RowAt.made rfl) (by simp [Value.oneCell']) hb40.out (Nat.le_trans hpw.out (below_alloc hB1.out _).size) ?_
  intro v9 w9 hO9_ hG9_ hC9_ hv9_
  obtain ⟨A9, d9, rfl⟩ := own_slice hO9_
  have hO9 := Lib.hid hO9_
  have hG9 := Lib.hid hG9_
  have hS9 := Lib.hid (hSH.out _ _ (below_alloc hB1.out _).size (below_alloc hB1.out _) hG9_ (hC9_ g c rfl))
  clear hO9_ hG9_ hC9_ hv9_
  refine hK.out _ _ hS9.out (fun hS3 => ?_)
  clear hK K
  try simp only [Act.put, List.setIfInBounds_toArray, List.set_cons_zero, List.set_cons_succ]
  refine wpAnyH_done (by kernel_rfl) ?_ _
  simp only [HeadPost]
  obtain ⟨t1, t2, t3, t4⟩ := hS9.out
  clear hS0 hS1 hS2 hS3 a1 a2 a3 a4
  go_wp2_with fail
  go_ret
  obtain ⟨h1, h2, h3, h4, h5, h6, hv, hov, hk⟩ := hH.out
  have hb := hBN.out
  exact ⟨rfl, NetAt.pushed (k := twiceK k) h1 h2 h3 h4 h5 h6 (below_alloc hB1.out _) (by have := hO9.out; rw [show (twiceK k).site = ksite from hKS.out]; exact this) hG9.out (OB.below (OB.lower hO1.out (Nat.le_trans hpw.out hB0.out.size)) (below_alloc (Below.refl _ _) _)) (by show k.b.length ≤ _; omega) (by show (0 : Int) ≤ 0; decide) (by show (0 : Int) ≤ 1000; decide)⟩
end Go.Proofs.YteeiacfddjhhkaaGreatDoor
