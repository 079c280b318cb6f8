/- net.New at a bad bound; Twice of a full net; Waits; Part and Heal of a site. -/
import Derived.Maps.OwnSet
import Derived.Test.YteeiacfddjhhkaaGreatDoorPSteps
import Derived.Test.YteeiacfddjhhkaaGreatDoorRNet3
import Derived.Deep.QuietTactic
import Derived.BigQuiet
namespace Go.Proofs.YteeiacfddjhhkaaGreatDoor
open Go.RowKit
set_option maxRecDepth 100000

theorem new_bad (most : Int) (w : World) (h : most < 1 ∨ 1024 < most) :
    Calls Tryz.prog 7 #[.int .i64 most] w fun e w' => e = .returned (.tuple #[.pointer none, .int .i64 2]) ∧ Below w.heap.size w w' := by
  by_cases h1 : most < 1
  · have d1 : decide (most < 1) = true := by simpa using h1
    clear h
    go_enter Tryz.func7, Tryz.ntmps7
    go_wp2_with fail
    refine bodyPost_ret (v := .tuple #[.pointer none, .int .i64 2]) ?_ rfl ⟨rfl, Below.refl _ _⟩
    simp [results, Tryz.results7, go_sem]
  · have d1 : decide (most < 1) = false := by simpa using h1
    have d2 : decide (1024 < most) = true := by simp; omega
    clear h
    go_enter Tryz.func7, Tryz.ntmps7
    go_wp2_with fail
    refine bodyPost_ret (v := .tuple #[.pointer none, .int .i64 2]) ?_ rfl ⟨rfl, Below.refl _ _⟩
    simp [results, Tryz.results7, go_sem]
theorem site_ok (p : Nat) (x : Int) (w : World) (h : 1 ≤ x ∧ x ≤ 3) :
    Calls Tryz.prog 54 #[.pointer (some ⟨p, 0, none⟩), .int .i64 x] w fun e w' => e = .returned .nilIface ∧ w' = w := by
  have d1 : decide (x < 1) = false := by simp; omega
  have d2 : decide (3 < x) = false := by simp; omega
  clear h
  go_enter Tryz.func54, Tryz.ntmps54
  go_wp2_with fail
  go_ret
  exact ⟨rfl, rfl⟩
theorem site_bad (p : Nat) (x : Int) (w : World) (h : ¬ (1 ≤ x ∧ x ≤ 3)) :
    Calls Tryz.prog 54 #[.pointer (some ⟨p, 0, none⟩), .int .i64 x] w (RetE w 2) := by
  by_cases h1 : x < 1
  all_goals
    first
      | have d1 : decide (x < 1) = true := by simpa using h1
      | (have d1 : decide (x < 1) = false := by simpa using h1
         have d2 : decide (3 < x) = true := by simp; omega)
    clear h h1
    go_enter Tryz.func54, Tryz.ntmps54
    go_wp2_with fail
    refine (new_err 2 (by decide) _).mono ?_
    rintro e w1 ⟨T, b, rfl, hE_, hB_⟩
    have hE := Lib.hid hE_
    have hB := Lib.hid hB_
    clear hE_ hB_
    go_wp2_with fail
    refine (bound_any 3 x _ 2 _ hE.out).mono ?_
    rintro e w2 ⟨T2, b2, rfl, hE_, hB_⟩
    have hE2 := Lib.hid hE_
    have hB2 := Lib.hid (bnext hB.out hB_)
    clear hE_ hB_
    go_wp2_with fail
    go_ret
    exact RetE.mk rfl hE2.out hB2.out
theorem cut_put (c : Cuts) (x : Int) (h : 1 ≤ x ∧ x ≤ 3) : (cutD c).put (.int .i64 x) (.lit (.int .i64 1)) = cutD (cutSet c x true) := by
  obtain ⟨c1, c2, c3⟩ := c
  rcases (show x = 1 ∨ x = 2 ∨ x = 3 by omega) with rfl | rfl | rfl <;> cases c1 <;> cases c2 <;> cases c3 <;> rfl
theorem cut_del (c : Cuts) (x : Int) (h : 1 ≤ x ∧ x ≤ 3) : (cutD c).del (.int .i64 x) = cutD (cutSet c x false) := by
  obtain ⟨c1, c2, c3⟩ := c
  rcases (show x = 1 ∨ x = 2 ∨ x = 3 by omega) with rfl | rfl | rfl <;> cases c1 <;> cases c2 <;> cases c3 <;> rfl
variable {cz : Cuts}
theorem NetAt.remap {c2 : Cuts} {w w' : World} {p : Nat} {most : Int} {ks : List PK} (h : NetAt cz w p most ks) {mb n : Nat} (hmb : mb + 1 = p) (hg : w.grownBy w' (some mb))
    (ho : w'.ownsMap Tryz.prog 3 (plainElem (H := Unit) Tryz.prog 3) mb n (cutD c2)) : NetAt c2 w' p most ks ∧ Kept (fun q => q + 1 = p) w w' := by
  obtain ⟨A, c, mb', mk, vs, h1, h2, h3, h4, h5, h6⟩ := h
  obtain rfl : mb' = mb := by omega
  obtain ⟨m2, hm2⟩ := MapIs.of ho
  have hk : Kept (fun q => q + 1 = p) w w' := ⟨hg.os, hg.tape, hg.output, hg.size, fun q hq hn => hg.block q hq (fun e => hn (by cases e; exact h3))⟩
  have hfar : ∀ (q : Nat) (cur : Array Value) (T : TypeId) (fr : Nat × Nat), w.heap[q]? = some (.cells cur T fr) → w'.heap[q]? = w.heap[q]? := fun q cur T fr hq => hk.block q (lt_of_block hq) (fun e => by
    obtain rfl : q = mb' := by omega
    rw [h2] at hq
    cases hq)
  refine ⟨⟨A, c, mb', m2, vs, (hfar _ _ _ _ h1).trans h1, hm2, h3, own_move h4 fun q hq => ?_, h5, fun i v k hv hk' => ⟨own_move (h6 i v k hv hk').1 fun q hq => ?_, (h6 i v k hv hk').2⟩⟩, hk⟩
  · obtain ⟨cur, e⟩ := own_type h4 hq
    exact hfar _ _ _ _ e
  · obtain ⟨cur, e⟩ := own_type (h6 i v k hv hk').1 hq
    exact hfar _ _ _ _ e
theorem wf_site {x : Int} (h : 1 ≤ x ∧ x ≤ 3) : (Lit.int .i64 x).wf = true := by
  simp [Lit.wf, IntKind.min, IntKind.max, IntKind.signed, IntKind.bits]
  omega
theorem Part_ok (p : Nat) (most : Int) (ks : List PK) (x : Int) (w : World) (h : NetAt cz w p most ks) (hx : 1 ≤ x ∧ x ≤ 3) :
    Calls Tryz.prog 28 #[.pointer (some ⟨p, 0, none⟩), .int .i64 x] w fun e w' => e = .returned (.int .i64 0) ∧ NetAt (cutSet cz x true) w' p most ks ∧ Kept (fun q => q + 1 = p) w w' := by
  have hN := Lib.hid h
  obtain ⟨A, c, mb, mk, vs, h1, h2, h3, h4, h5, h6⟩ := h
  have x2 : w.cell? ⟨p, 2, none⟩ = some (.map (some mb)) := by rw [block_cell h1]; rfl
  have hown := mk.owns h2
  have hX := Lib.hid hx
  have hM := Lib.hid h3
  clear h1 h2 h3 h4 h5 h6 hx
  go_enter Tryz.func28, Tryz.ntmps28
  go_wp2_with fail
  refine (site_ok p x _ hX.out).mono ?_
  rintro e w ⟨rfl, rfl⟩
  go_wp2_with (at_mapUpdate; refine wpList_mapUpdate_own _ rfl _ _ _ 68 rfl 3 3 (Go.Maps.int_keyed Tryz.underlying3) Tryz.underlying68 _ mb 3 _ rfl hown (by decide) _ _ _ rfl rfl (Go.Maps.keyOf_int_mk Tryz.underlying3 (wf_site hX.out)) _ [] (plainElem_int Tryz.underlying3 (by decide)) ?_)
  intro w1 hown1 hgrow1
  rw [cut_put cz x hX.out] at hown1
  have hE := Lib.hid (hN.out.remap hM.out hgrow1 hown1)
  clear hown hown1 hgrow1
  go_wp2_with fail
  refine (code_ok _).mono ?_
  rintro e w2 ⟨rfl, hB_⟩
  have hB := Lib.hid hB_
  clear hB_
  go_wp2_with fail
  go_ret
  exact ⟨rfl, hE.out.1.later hB.out, hE.out.2.below hB.out⟩
theorem Heal_ok (p : Nat) (most : Int) (ks : List PK) (x : Int) (w : World) (h : NetAt cz w p most ks) (hx : 1 ≤ x ∧ x ≤ 3) :
    Calls Tryz.prog 29 #[.pointer (some ⟨p, 0, none⟩), .int .i64 x] w fun e w' => e = .returned (.int .i64 0) ∧ NetAt (cutSet cz x false) w' p most ks ∧ Kept (fun q => q + 1 = p) w w' := by
  have hN := Lib.hid h
  obtain ⟨A, c, mb, mk, vs, h1, h2, h3, h4, h5, h6⟩ := h
  have x2 : w.cell? ⟨p, 2, none⟩ = some (.map (some mb)) := by rw [block_cell h1]; rfl
  have hown := mk.owns h2
  have hX := Lib.hid hx
  have hM := Lib.hid h3
  clear h1 h2 h3 h4 h5 h6 hx
  go_enter Tryz.func29, Tryz.ntmps29
  go_wp2_with fail
  refine (site_ok p x _ hX.out).mono ?_
  rintro e w ⟨rfl, rfl⟩
  go_wp2_with (at_delete; refine wpList_delete_own _ rfl _ _ 68 3 rfl 3 (Go.Maps.int_keyed Tryz.underlying3) Tryz.underlying68 _ mb 3 _ rfl hown _ _ rfl (Go.Maps.keyOf_int_mk Tryz.underlying3 (wf_site hX.out)) ?_)
  intro w1 hown1 hturn1
  rw [cut_del cz x hX.out] at hown1
  have hE := Lib.hid (hN.out.remap hM.out hturn1.grown hown1)
  clear hown hown1 hturn1
  go_wp2_with fail
  refine (code_ok _).mono ?_
  rintro e w2 ⟨rfl, hB_⟩
  have hB := Lib.hid hB_
  clear hB_
  go_wp2_with fail
  go_ret
  exact ⟨rfl, hE.out.1.later hB.out, hE.out.2.below hB.out⟩
theorem Part_bad (p : Nat) (x : Int) (w : World) (hG : GOk w) (hx : ¬ (1 ≤ x ∧ x ≤ 3)) :
    Calls Tryz.prog 28 #[.pointer (some ⟨p, 0, none⟩), .int .i64 x] w fun e w' => e = .returned (.int .i64 2) ∧ Below w.heap.size w w' := by
  have hGG := Lib.hid hG
  have hX := Lib.hid hx
  clear hG hx
  go_enter Tryz.func28, Tryz.ntmps28
  go_wp2_with fail
  refine (site_bad p x _ hX.out).mono ?_
  rintro e w1 ⟨T, b, rfl, hE_, hB_⟩
  have hE := Lib.hid hE_
  have hB := Lib.hid hB_
  clear hE_ hB_
  go_wp2_with fail
  refine (code_err _ 2 _ hE.out (hGG.out.below hB.out)).mono ?_
  rintro e w2 ⟨rfl, hB_⟩
  have hB2 := Lib.hid (bnext hB.out hB_)
  clear hB_
  go_wp2_with fail
  go_ret
  exact ⟨rfl, hB2.out⟩
theorem Heal_bad (p : Nat) (x : Int) (w : World) (hG : GOk w) (hx : ¬ (1 ≤ x ∧ x ≤ 3)) :
    Calls Tryz.prog 29 #[.pointer (some ⟨p, 0, none⟩), .int .i64 x] w fun e w' => e = .returned (.int .i64 2) ∧ Below w.heap.size w w' := by
  have hGG := Lib.hid hG
  have hX := Lib.hid hx
  clear hG hx
  go_enter Tryz.func29, Tryz.ntmps29
  go_wp2_with fail
  refine (site_bad p x _ hX.out).mono ?_
  rintro e w1 ⟨T, b, rfl, hE_, hB_⟩
  have hE := Lib.hid hE_
  have hB := Lib.hid hB_
  clear hE_ hB_
  go_wp2_with fail
  refine (code_err _ 2 _ hE.out (hGG.out.below hB.out)).mono ?_
  rintro e w2 ⟨rfl, hB_⟩
  have hB2 := Lib.hid (bnext hB.out hB_)
  clear hB_
  go_wp2_with fail
  go_ret
  exact ⟨rfl, hB2.out⟩
theorem Part_any (p : Nat) (most : Int) (ks : List PK) (x : Int) (w : World) (hG : GOk w) (h : NetAt cz w p most ks) :
    Calls Tryz.prog 28 #[.pointer (some ⟨p, 0, none⟩), .int .i64 x] w fun e w' => e = .returned (.int .i64 (if 1 ≤ x ∧ x ≤ 3 then 0 else 2)) ∧ NetAt (if 1 ≤ x ∧ x ≤ 3 then cutSet cz x true else cz) w' p most ks ∧ Kept (fun q => q + 1 = p) w w' := by
  by_cases hx : 1 ≤ x ∧ x ≤ 3
  · rw [if_pos hx, if_pos hx]
    exact Part_ok p most ks x w h hx
  · rw [if_neg hx, if_neg hx]
    exact (Part_bad p x w hG hx).mono fun e w' ⟨he, hb⟩ => ⟨he, h.later hb, Kept.of_below _ hb⟩
theorem Heal_any (p : Nat) (most : Int) (ks : List PK) (x : Int) (w : World) (hG : GOk w) (h : NetAt cz w p most ks) :
    Calls Tryz.prog 29 #[.pointer (some ⟨p, 0, none⟩), .int .i64 x] w fun e w' => e = .returned (.int .i64 (if 1 ≤ x ∧ x ≤ 3 then 0 else 2)) ∧ NetAt (if 1 ≤ x ∧ x ≤ 3 then cutSet cz x false else cz) w' p most ks ∧ Kept (fun q => q + 1 = p) w w' := by
  by_cases hx : 1 ≤ x ∧ x ≤ 3
  · rw [if_pos hx, if_pos hx]
    exact Heal_ok p most ks x w h hx
  · rw [if_neg hx, if_neg hx]
    exact (Heal_bad p x w hG hx).mono fun e w' ⟨he, hb⟩ => ⟨he, h.later hb, Kept.of_below _ hb⟩
theorem Twice_full (p : Nat) (most : Int) (ks : List PK) (i : Nat) (w : World) (hG : GOk w) (h : NetAt cz w p most ks) (hi : i < ks.length) (hf : most ≤ (ks.length : Int)) (hl : ks.length ≤ 100000) :
    Calls Tryz.prog 20 #[.pointer (some ⟨p, 0, none⟩), .int .i64 i] w fun e w' => e = .returned (.int .i64 5) ∧ Below w.heap.size w w' := by
  have hGG := Lib.hid hG
  have hN := Lib.hid h
  obtain ⟨A, c, mb, mk, vs, h1, _⟩ := h
  have x0 : w.cell? ⟨p, 0, none⟩ = some (.int .i64 most) := by rw [block_cell h1]; rfl
  have x1 : w.cell? ⟨p, 1, none⟩ = some (.slice A ks.length c) := by rw [block_cell h1]; rfl
  have d1 : decide (most ≤ (ks.length : Int)) = true := by simpa using hf
  clear hG h1 hf
  go_enter Tryz.func20, Tryz.ntmps20
  go_wp2_with fail
  refine (at_ok p most ks i _ hN.out hi).mono ?_
  rintro e w ⟨rfl, rfl⟩
  go_wp2_with fail
  go_quiet (fail)
  go_wp2_with fail
  have hBq := Lib.hid (below_drewN (Below.refl w.heap.size w) nq)
  generalize w.drewN nq = w0 at *
  have hBd := Lib.hid hBq.out.drew
  have a0 := cell_below hBd.out x0
  have a1 := cell_below hBd.out x1
  refine wp_region_noPanic ?_
  refine wp_region_held_drew (S := fun V => V.cell? ⟨p, 0, none⟩ = some (.int .i64 most) ∧ V.cell? ⟨p, 1, none⟩ = some (.slice A ks.length c)) (by kernel_rfl) (⟨a0, a1⟩) (fun hS0 => ?_)
  refine wpAnyH_take (i := 0) (v := ?_) rfl (by kernel_rfl) (by kernel_rfl) (by kernel_rfl) (fun _ _ _ h => h) (Or.inl ⟨by rfl, ?_⟩) (by assumption) ?_
  rotate_left
  · intro w' hSw
    obtain ⟨q0, q1⟩ := hSw
    go_simp
    try with_reducible rfl
  try simp only [List.getElem_toArray, List.getElem_cons_succ, List.getElem_cons_zero, Act.put, List.setIfInBounds_toArray, List.set_cons_zero, List.set_cons_succ]
  refine wpAnyH_take (i := 1) (v := ?_) rfl (by kernel_rfl) (by kernel_rfl) (by kernel_rfl) (fun _ _ _ h => h) (Or.inl ⟨by rfl, ?_⟩) (by assumption) ?_
  rotate_left
  · intro w' hSw
    obtain ⟨q0, q1⟩ := hSw
    go_simp
    try with_reducible rfl
  try simp only [List.getElem_toArray, List.getElem_cons_succ, List.getElem_cons_zero, Act.put, List.setIfInBounds_toArray, List.set_cons_zero, List.set_cons_succ]
  refine wpAnyH_take (i := 2) (v := ?_) rfl (by kernel_rfl) (by kernel_rfl) (by kernel_rfl) (fun _ _ _ h => h) (Or.inl ⟨by rfl, ?_⟩) (by assumption) ?_
  rotate_left
  · intro w' hSw
    obtain ⟨q0, q1⟩ := hSw
    go_simp
    try with_reducible rfl
  try simp only [List.getElem_toArray, List.getElem_cons_succ, List.getElem_cons_zero, Act.put, List.setIfInBounds_toArray, List.set_cons_zero, List.set_cons_succ]
  refine wpAnyH_take (i := 3) (v := ?_) rfl (by kernel_rfl) (by kernel_rfl) (by kernel_rfl) (fun _ _ _ h => h) (Or.inl ⟨by rfl, ?_⟩) (by assumption) ?_
  rotate_left
  · intro w' hSw
    obtain ⟨q0, q1⟩ := hSw
    go_simp
    try with_reducible rfl
  try simp only [List.getElem_toArray, List.getElem_cons_succ, List.getElem_cons_zero, Act.put, List.setIfInBounds_toArray, List.set_cons_zero, List.set_cons_succ]
  refine wpAnyH_take (i := 4) (v := ?_) rfl (by kernel_rfl) (by kernel_rfl) (by kernel_rfl) (fun _ _ _ h => h) (Or.inl ⟨by rfl, ?_⟩) (by assumption) ?_
  rotate_left
  · intro w' hSw
    obtain ⟨q0, q1⟩ := hSw
    go_simp
    try with_reducible rfl
  try simp only [List.getElem_toArray, List.getElem_cons_succ, List.getElem_cons_zero, Act.put, List.setIfInBounds_toArray, List.set_cons_zero, List.set_cons_succ]
  refine wpAnyH_take (i := 5) (v := ?_) rfl (by kernel_rfl) (by kernel_rfl) (by kernel_rfl) (fun _ _ _ h => h) (Or.inl ⟨by rfl, ?_⟩) (by assumption) ?_
  rotate_left
  · intro w' hSw
    obtain ⟨q0, q1⟩ := hSw
    go_simp
    try with_reducible rfl
  try simp only [List.getElem_toArray, List.getElem_cons_succ, List.getElem_cons_zero, Act.put, List.setIfInBounds_toArray, List.set_cons_zero, List.set_cons_succ]
  refine wpAnyH_take (i := 6) (v := ?_) rfl (by kernel_rfl) (by kernel_rfl) (by kernel_rfl) (fun _ _ _ h => h) (Or.inl ⟨by rfl, ?_⟩) (by assumption) ?_
  rotate_left
  · intro w' hSw
    obtain ⟨q0, q1⟩ := hSw
    go_simp
    try with_reducible rfl
  try simp only [List.getElem_toArray, List.getElem_cons_succ, List.getElem_cons_zero, Act.put, List.setIfInBounds_toArray, List.set_cons_zero, List.set_cons_succ]
  refine wpAnyH_take (i := 7) (v := ?_) rfl (by kernel_rfl) (by kernel_rfl) (by kernel_rfl) (fun _ _ _ h => h) (Or.inl ⟨by rfl, ?_⟩) (by assumption) ?_
  rotate_left
  · intro w' hSw
    obtain ⟨q0, q1⟩ := hSw
    go_simp
    try with_reducible rfl
  try simp only [List.getElem_toArray, List.getElem_cons_succ, List.getElem_cons_zero, Act.put, List.setIfInBounds_toArray, List.set_cons_zero, List.set_cons_succ]
  refine wpAnyH_take (i := 8) (v := ?_) rfl (by kernel_rfl) (by kernel_rfl) (by kernel_rfl) (fun _ _ _ h => h) (Or.inl ⟨by rfl, ?_⟩) (by assumption) ?_
  rotate_left
  · intro w' hSw
    obtain ⟨q0, q1⟩ := hSw
    go_simp
    try with_reducible rfl
  try simp only [List.getElem_toArray, List.getElem_cons_succ, List.getElem_cons_zero, Act.put, List.setIfInBounds_toArray, List.set_cons_zero, List.set_cons_succ]
  refine wpAnyH_ready (rs := [9]) (by kernel_rfl) (by simp) ?_
  refine AllReadyH.cons rfl (fun K hK => ?_) AllReadyH.nil
  go_simp
  refine (new_err 5 (by decide) _).mono ?_
  rintro e w2 ⟨T2, b2, rfl, hE_, hB_⟩
  have hE2 := Lib.hid hE_
  have hB2 := Lib.hid (bnext hBd.out hB_)
  clear hE_ hB_
  refine hK.out _ _ (⟨cell_below hB2.out x0, cell_below hB2.out x1⟩) (fun hS1 => ?_)
  clear hK K
  try simp only [List.getElem_toArray, List.getElem_cons_succ, List.getElem_cons_zero, Act.put, List.setIfInBounds_toArray, List.set_cons_zero, List.set_cons_succ]
  refine wpAnyH_ready (rs := [10]) (by kernel_rfl) (by simp) ?_
  refine AllReadyH.cons rfl (fun K hK => ?_) AllReadyH.nil
  go_simp
  refine (bound_any most ks.length _ 5 _ hE2.out).mono ?_
  rintro e w3 ⟨T3, b3, rfl, hE_, hB_⟩
  have hE3 := Lib.hid hE_
  have hB3 := Lib.hid (bnext hB2.out hB_)
  clear hE_ hB_
  refine hK.out _ _ (⟨cell_below hB3.out x0, cell_below hB3.out x1⟩) (fun hS2 => ?_)
  clear hK K
  try simp only [List.getElem_toArray, List.getElem_cons_succ, List.getElem_cons_zero, Act.put, List.setIfInBounds_toArray, List.set_cons_zero, List.set_cons_succ]
  refine wpAnyH_take (i := 11) (v := ?_) rfl (by kernel_rfl) (by kernel_rfl) (by kernel_rfl) (fun _ _ _ h => h) (Or.inl ⟨by rfl, ?_⟩) (by assumption) ?_
  rotate_left
  · intro w' hSw
    obtain ⟨q0, q1⟩ := hSw
    go_simp
    try with_reducible rfl
  try simp only [List.getElem_toArray, List.getElem_cons_succ, List.getElem_cons_zero, Act.put, List.setIfInBounds_toArray, List.set_cons_zero, List.set_cons_succ]
  refine wpAnyH_done (by kernel_rfl) ?_ _
  refine NoPanic.normal ?_
  clear hS0 hS1 hS2
  go_wp2_with fail
  refine (code_err _ 5 _ hE3.out (hGG.out.below hB3.out)).mono ?_
  rintro e w4 ⟨rfl, hB_⟩
  have hB4 := Lib.hid (bnext hB3.out hB_)
  clear hB_
  go_wp2_with fail
  go_ret
  exact ⟨rfl, hB4.out⟩
/-- How long a packet waits, 0 where there is none. -/
def waitsAt (ks : List PK) (i : Int) : Int := if 0 ≤ i then ((ks[i.toNat]?).map (·.waits)).getD 0 else 0
theorem waitsAt_in {ks : List PK} {j : Nat} (hj : j < ks.length) : waitsAt ks j = ks[j].waits := by
  unfold waitsAt
  rw [if_pos (by omega), Int.toNat_natCast, List.getElem?_eq_getElem hj]
  rfl
theorem waitsAt_out {ks : List PK} {i : Int} (h : i < 0 ∨ (ks.length : Int) ≤ i) : waitsAt ks i = 0 := by
  unfold waitsAt
  by_cases h0 : 0 ≤ i
  · rw [if_pos h0, List.getElem?_eq_none (by omega)]
    rfl
  · rw [if_neg h0]
theorem Waits_any (p : Nat) (most : Int) (ks : List PK) (i : Int) (w : World) (h : NetAt cz w p most ks) :
    Calls Tryz.prog 30 #[.pointer (some ⟨p, 0, none⟩), .int .i64 i] w fun e w' => e = .returned (.int .i64 (waitsAt ks i)) ∧ Below w.heap.size w w' := by
  rcases int_cases i ks.length with ⟨j, rfl, hj⟩ | hi
  · have hk : ks[j]? = some ks[j] := List.getElem?_eq_getElem hj
    have hN := Lib.hid h
    obtain ⟨g, c, mb, mk, vs, v, h1, h2, h3, h4, h5, h6, hv, hov⟩ := h.row hk
    have x1 : w.cell? ⟨p, 1, none⟩ = some (.slice (some ⟨g, 0, none⟩) ks.length c) := by rw [block_cell h1]; rfl
    have y2 : w.cell? ⟨g, j * 3 + 2, none⟩ = some (.int .i64 ks[j].waits) := by rw [h4.cellAt _ (by omega)]; exact (pksC_get vs ks j _ _ hv hk).2.2
    rw [waitsAt_in hj]
    clear h h1 h2 h3 h4 h5 h6 hv hov hk
    generalize ks[j].waits = kw at *
    go_enter Tryz.func30, Tryz.ntmps30
    go_wp2_with fail
    refine (at_ok p most ks j _ hN.out hj).mono ?_
    rintro e w ⟨rfl, rfl⟩
    go_wp2_with fail
    go_ret
    exact ⟨rfl, Below.refl _ _⟩
  · rw [waitsAt_out hi]
    exact Waits_none p most ks i w h hi
end Go.Proofs.YteeiacfddjhhkaaGreatDoor
