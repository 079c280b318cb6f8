/- byroadlaw20.same, of a net and of the document's that hold the same packets and have the same sites cut off: true. -/
import Derived.Test.YteeiacfddjhhkaaGreatDoorPPart
import Derived.Test.YteeiacfddjhhkaaGreatDoorPParted
import Derived.Test.YteeiacfddjhhkaaGreatDoorRNet4
namespace Go.Proofs.YteeiacfddjhhkaaGreatDoor
open Go.RowKit
set_option maxRecDepth 100000
variable {cz : Cuts}
theorem Packet_own (p : Nat) (most : Int) (ks : List PK) (j : Nat) (w : World) (h : NetAt cz w p most ks) (hj : j < ks.length) :
    Calls Tryz.prog 18 #[.pointer (some ⟨p, 0, none⟩), .int .i64 j] w (RetB w ks[j].b) := by
  have hk : ks[j]? = some ks[j] := List.getElem?_eq_getElem hj
  have hN := Lib.hid h
  obtain ⟨g, c, mb, mk, vs, v, h1, h2, h3, h4, h5, h6, hv, hov⟩ := h.row hk
  have x1 : w.cell? ⟨p, 1, none⟩ = some (.slice (some ⟨g, 0, none⟩) ks.length c) := by rw [block_cell h1]; rfl
  have y0 : w.cell? ⟨g, j * 3, none⟩ = some v := by rw [h4.cellAt _ (by omega)]; exact (pksC_get vs ks j _ _ hv hk).1
  have hbl := (h6 j v _ hv hk).2.1
  obtain ⟨A, d, rfl⟩ := own_slice hov
  have hO := Lib.hid (RB.of_own hov)
  have hbk : Hid (ks[j].b.length ≤ 1000000) := Lib.hid (by omega)
  clear h h1 h2 h3 h4 h5 h6 hv hov hk hbl
  generalize ks[j].b = bs at *
  go_enter Tryz.func18, Tryz.ntmps18
  go_wp2_with fail
  refine (at_ok p most ks j _ hN.out hj).mono ?_
  rintro e w ⟨rfl, rfl⟩
  go_wp2_with fail
  refine (clone_any _ bs _ hO.out hbk.out).mono ?_
  rintro e w1 ⟨A1, d1, rfl, hO1_, hB1_⟩
  have hO1 := Lib.hid hO1_
  have hB1 := Lib.hid hB1_
  clear hO1_ hB1_
  go_wp2_with fail
  go_ret
  exact ⟨A1, d1, rfl, hO1.out, hB1.out⟩
/-- How many sites from n on are cut off. -/
def cntF (c : Cuts) (n : Nat) : Int := (if n ≤ 1 ∧ c.c1 = true then 1 else 0) + ((if n ≤ 2 ∧ c.c2 = true then 1 else 0) + (if n ≤ 3 ∧ c.c3 = true then 1 else 0))
theorem cntF_one (c : Cuts) : cntF c 1 = ((cutK c).length : Int) := by
  obtain ⟨c1, c2, c3⟩ := c
  cases c1 <;> cases c2 <;> cases c3 <;> rfl
theorem cntF_end (c : Cuts) : cntF c 4 = 0 := by
  obtain ⟨c1, c2, c3⟩ := c
  cases c1 <;> cases c2 <;> cases c3 <;> rfl
theorem cntF_step (c : Cuts) (n : Nat) (h : 1 ≤ n ∧ n ≤ 3) : cntF c n = cntF c (n + 1) + if cutAt c n then 1 else 0 := by
  obtain ⟨c1, c2, c3⟩ := c
  rcases (show n = 1 ∨ n = 2 ∨ n = 3 by omega) with rfl | rfl | rfl <;> cases c1 <;> cases c2 <;> cases c3 <;> rfl
theorem cntF_ok (c : Cuts) (n : Nat) : 0 ≤ cntF c n ∧ cntF c n ≤ 3 := by
  unfold cntF
  split <;> split <;> split <;> omega
theorem cutK_at (c : Cuts) (n : Nat) (h : n < (cutK c).length) : 1 ≤ (cutK c)[n] ∧ (cutK c)[n] ≤ 3 ∧ cutAt c (cutK c)[n] = true := by
  have hm := List.getElem_mem h
  generalize (cutK c)[n] = x at hm
  obtain ⟨c1, c2, c3⟩ := c
  have : (c1 = true ∧ x = 1) ∨ (c2 = true ∧ x = 2) ∨ (c3 = true ∧ x = 3) := by
    simp only [cutK, List.mem_append] at hm
    rcases hm with hm | hm | hm
    · cases c1 <;> simp at hm
      exact .inl ⟨rfl, hm⟩
    · cases c2 <;> simp at hm
      exact .inr (.inl ⟨rfl, hm⟩)
    · cases c3 <;> simp at hm
      exact .inr (.inr ⟨rfl, hm⟩)
  rcases this with ⟨rfl, rfl⟩ | ⟨rfl, rfl⟩ | ⟨rfl, rfl⟩ <;> simp [cutAt]
theorem cutK_len (c : Cuts) : (cutK c).length ≤ 3 := by
  obtain ⟨c1, c2, c3⟩ := c
  cases c1 <;> cases c2 <;> cases c3 <;> decide
set_option maxHeartbeats 4000000 in
theorem same_any (p q : Nat) (most : Int) (ks : List PK) (w : World) (hN_ : NetAt cz w p most ks) (hR_ : RefAt cz w q most ks) (hl : ks.length ≤ 1024) :
    Calls Tryz.prog 25 #[.pointer (some ⟨p, 0, none⟩), .pointer (some ⟨q, 0, none⟩)] w fun e w' => e = .returned (.bool true) ∧ Below w.heap.size w w' := by
  have hN := Lib.hid hN_
  have hR := Lib.hid hR_
  obtain ⟨A, c, vs, h1, h2, h3, h4⟩ := hR_
  have hBd := Lib.hid (Below.refl w.heap.size w).drew
  have x1 : w.drew.cell? ⟨q, 1, none⟩ = some (.slice A ks.length c) := (block_cell (show w.drew.heap[q]? = _ from h1) _).trans rfl
  have hH := Lib.hid (And.intro h2 (And.intro h3 h4))
  have hNd := Lib.hid (hN.out.later hBd.out)
  clear hN_ h1 h2 h3 h4
  go_enter Tryz.func25, Tryz.ntmps25
  go_wp2_with fail
  refine wp_region_noPanic ?_
  refine wp_region_held_drew (S := fun V => V.cell? ⟨q, 1, none⟩ = some (.slice A ks.length c)) (by kernel_rfl) (x1) (fun hS0 => ?_)
  refine wpAnyH_take (i := 0) (v := ?_) rfl (by kernel_rfl) (by kernel_rfl) (by kernel_rfl) (fun _ _ _ h => h) (Or.inl ⟨by rfl, ?_⟩) (by assumption) ?_
  rotate_left
  · intro w' hSw
    go_simp
    try with_reducible rfl
  try simp only [List.getElem_toArray, List.getElem_cons_succ, List.getElem_cons_zero, Act.put, List.setIfInBounds_toArray, List.set_cons_zero, List.set_cons_succ]
  refine wpAnyH_take (i := 1) (v := ?_) rfl (by kernel_rfl) (by kernel_rfl) (by kernel_rfl) (fun _ _ _ h => h) (Or.inl ⟨by rfl, ?_⟩) (by assumption) ?_
  rotate_left
  · intro w' hSw
    go_simp
    try with_reducible rfl
  try simp only [List.getElem_toArray, List.getElem_cons_succ, List.getElem_cons_zero, Act.put, List.setIfInBounds_toArray, List.set_cons_zero, List.set_cons_succ]
  refine wpAnyH_take (i := 2) (v := ?_) rfl (by kernel_rfl) (by kernel_rfl) (by kernel_rfl) (fun _ _ _ h => h) (Or.inl ⟨by rfl, ?_⟩) (by assumption) ?_
  rotate_left
  · intro w' hSw
    go_simp
    try with_reducible rfl
  try simp only [List.getElem_toArray, List.getElem_cons_succ, List.getElem_cons_zero, Act.put, List.setIfInBounds_toArray, List.set_cons_zero, List.set_cons_succ]
  refine wpAnyH_take (i := 3) (v := ?_) rfl (by kernel_rfl) (by kernel_rfl) (by kernel_rfl) (fun _ _ _ h => h) (Or.inl ⟨by rfl, ?_⟩) (by assumption) ?_
  rotate_left
  · intro w' hSw
    go_simp
    try with_reducible rfl
  try simp only [List.getElem_toArray, List.getElem_cons_succ, List.getElem_cons_zero, Act.put, List.setIfInBounds_toArray, List.set_cons_zero, List.set_cons_succ]
  refine wpAnyH_take (i := 5) (v := ?_) rfl (by kernel_rfl) (by kernel_rfl) (by kernel_rfl) (fun _ _ _ h => h) (Or.inl ⟨by rfl, ?_⟩) (by assumption) ?_
  rotate_left
  · intro w' hSw
    go_simp
    try with_reducible rfl
  try simp only [List.getElem_toArray, List.getElem_cons_succ, List.getElem_cons_zero, Act.put, List.setIfInBounds_toArray, List.set_cons_zero, List.set_cons_succ]
  refine wpAnyH_take (i := 6) (v := ?_) rfl (by kernel_rfl) (by kernel_rfl) (by kernel_rfl) (fun _ _ _ h => h) (Or.inl ⟨by rfl, ?_⟩) (by assumption) ?_
  rotate_left
  · intro w' hSw
    go_simp
    try with_reducible rfl
  try simp only [List.getElem_toArray, List.getElem_cons_succ, List.getElem_cons_zero, Act.put, List.setIfInBounds_toArray, List.set_cons_zero, List.set_cons_succ]
  refine wpAnyH_take (i := 7) (v := ?_) rfl (by kernel_rfl) (by kernel_rfl) (by kernel_rfl) (fun _ _ _ h => h) (Or.inl ⟨by rfl, ?_⟩) (by assumption) ?_
  rotate_left
  · intro w' hSw
    go_simp
    try with_reducible rfl
  try simp only [List.getElem_toArray, List.getElem_cons_succ, List.getElem_cons_zero, Act.put, List.setIfInBounds_toArray, List.set_cons_zero, List.set_cons_succ]
  refine wpAnyH_take (i := 8) (v := ?_) rfl (by kernel_rfl) (by kernel_rfl) (by kernel_rfl) (fun _ _ _ h => h) (Or.inl ⟨by rfl, ?_⟩) (by assumption) ?_
  rotate_left
  · intro w' hSw
    go_simp
    try with_reducible rfl
  try simp only [List.getElem_toArray, List.getElem_cons_succ, List.getElem_cons_zero, Act.put, List.setIfInBounds_toArray, List.set_cons_zero, List.set_cons_succ]
  refine wpAnyH_take (i := 9) (v := ?_) rfl (by kernel_rfl) (by kernel_rfl) (by kernel_rfl) (fun _ _ _ h => h) (Or.inl ⟨by rfl, ?_⟩) (by assumption) ?_
  rotate_left
  · intro w' hSw
    go_simp
    try with_reducible rfl
  try simp only [List.getElem_toArray, List.getElem_cons_succ, List.getElem_cons_zero, Act.put, List.setIfInBounds_toArray, List.set_cons_zero, List.set_cons_succ]
  refine wpAnyH_ready (rs := [4]) (by kernel_rfl) (by simp) ?_
  refine AllReadyH.cons rfl (fun K hK => ?_) AllReadyH.nil
  go_simp
  refine (Len_net p most ks _ hNd.out).mono ?_
  rintro e wz ⟨rfl, rfl⟩
  refine hK.out _ _ (x1) (fun hS1 => ?_)
  clear hK K
  try simp only [List.getElem_toArray, List.getElem_cons_succ, List.getElem_cons_zero, Act.put, List.setIfInBounds_toArray, List.set_cons_zero, List.set_cons_succ]
  refine wpAnyH_take (i := 10) (v := ?_) rfl (by kernel_rfl) (by kernel_rfl) (by kernel_rfl) (fun _ _ _ h => h) (Or.inl ⟨by rfl, ?_⟩) (by assumption) ?_
  rotate_left
  · intro w' hSw
    go_simp
    try with_reducible rfl
  try simp only [List.getElem_toArray, List.getElem_cons_succ, List.getElem_cons_zero, Act.put, List.setIfInBounds_toArray, List.set_cons_zero, List.set_cons_succ]
  refine wpAnyH_take (i := 11) (v := ?_) rfl (by kernel_rfl) (by kernel_rfl) (by kernel_rfl) (fun _ _ _ h => h) (Or.inl ⟨by rfl, ?_⟩) (by assumption) ?_
  rotate_left
  · intro w' hSw
    go_simp
    try with_reducible rfl
  try simp only [List.getElem_toArray, List.getElem_cons_succ, List.getElem_cons_zero, Act.put, List.setIfInBounds_toArray, List.set_cons_zero, List.set_cons_succ]
  refine wpAnyH_done (by kernel_rfl) ?_ _
  refine NoPanic.normal ?_
  clear hS0 hS1
  generalize w.drew = wd at *
  go_wp2_with fail
  go_loopw [30] (fun i wr => ∃ n : Nat, n ≤ ks.length ∧ i = .int .i64 n ∧ Below w.heap.size w wr) (fun i _ => ks.length - (intOf i).toNat)
  case atStart => exact ⟨0, by omega, rfl, hBd.out⟩
  case round =>
    obtain ⟨n, hn, rfl, hB_⟩ := hrel
    have hB := Lib.hid hB_
    clear hB_
    by_cases hlt : n < ks.length
    · obtain ⟨k, hk⟩ : ∃ k, ks[n]? = some k := ⟨_, List.getElem?_eq_getElem hlt⟩
      have hkE : ks[n] = k := (List.getElem?_eq_some_iff.1 hk).2
      obtain ⟨v, hv⟩ : ∃ v, vs[n]? = some v := ⟨_, List.getElem?_eq_getElem (by have := hH.out.2.1; omega)⟩
      obtain ⟨hov, hbl⟩ := hH.out.2.2 n v k hv hk
      obtain ⟨Av, cv, rfl⟩ := own_slice hov
      obtain ⟨g, cap, hA⟩ : ∃ g cap, Value.slice A ks.length c = .slice (some ⟨g, 0, none⟩) ks.length cap := by
        rcases hH.out.1.2 with ⟨_, h'⟩ | ⟨g', cap', cur, h', _⟩
        · omega
        · exact ⟨g', cap', h'⟩
      cases hA
      have hrow := own_below hH.out.1 hB.out
      have y0 : wr.cell? ⟨g, n * 3, none⟩ = some (.slice Av k.b.length cv) := by rw [hrow.cellAt _ (by omega)]; exact (pksC_get vs ks n _ k hv hk).1
      have y1 : wr.cell? ⟨g, n * 3 + 1, none⟩ = some (.int .i64 k.site) := by rw [hrow.cellAt _ (by omega)]; exact (pksC_get vs ks n _ k hv hk).2.1
      have y2 : wr.cell? ⟨g, n * 3 + 2, none⟩ = some (.int .i64 k.waits) := by rw [hrow.cellAt _ (by omega)]; exact (pksC_get vs ks n _ k hv hk).2.2
      have hPk := Lib.hid (fun W hW => Packet_own (cz := cz) p most ks n W hW hlt)
      have hWt := Lib.hid (fun W hW => Waits_any (cz := cz) p most ks n W hW)
      rw [waitsAt_in hlt, hkE] at hWt
      rw [hkE] at hPk
      have hOV := Lib.hid (OB.below hov hB.out)
      have hBL := Lib.hid hbl
      clear hv hk hov hbl hrow hkE
      obtain ⟨kbl, hkbl⟩ : ∃ n, n = k.b.length := ⟨_, rfl⟩
      obtain ⟨ksite, hks⟩ : ∃ n, n = k.site := ⟨_, rfl⟩
      obtain ⟨kwaits, hkw⟩ : ∃ n, n = k.waits := ⟨_, rfl⟩
      rw [← hkbl] at y0 hOV
      rw [← hks] at y1
      rw [← hkw] at y2 hWt
      have hKE := Lib.hid (And.intro hkbl (And.intro hks hkw))
      clear hkbl hks hkw
      have hB0 := Lib.hid (below_alloc hB.out (.cells #[.slice Av kbl cv, .int .i64 ksite, .int .i64 kwaits] 97))
      have hBw := Lib.hid (below_alloc (Below.refl _ wr) (.cells #[.slice Av kbl cv, .int .i64 ksite, .int .i64 kwaits] 97))
      have hT0 := Lib.hid (heap_alloc_new wr (.cells #[.slice Av kbl cv, .int .i64 ksite, .int .i64 kwaits] 97))
      have hsz0 : Hid (w.heap.size ≤ (wr.alloc (.cells #[.slice Av kbl cv, .int .i64 ksite, .int .i64 kwaits] 97)).heap.size) := Lib.hid hB0.out.size
      go_wp2_with fail
      generalize wr.alloc (.cells #[.slice Av kbl cv, .int .i64 ksite, .int .i64 kwaits] 97) = W0 at *
      refine (hPk.out W0 (hN.out.later hB0.out)).mono ?_
      rintro e W1 ⟨A1, c1, rfl, hO1_, hB1_⟩
      rw [← hKE.out.1] at hO1_ ⊢
      have hO1 := Lib.hid hO1_
      have hB1 := Lib.hid (bnext hB0.out hB1_)
      have hOV1 := Lib.hid (OB.below (OB.below hOV.out hBw.out) hB1_)
      have hT1 := Lib.hid (block_below hB1_ hT0.out)
      have hsz1 : Hid (w.heap.size ≤ W0.heap.size) := Lib.hid hsz0.out
      clear hO1_ hB1_
      go_wp2_with fail
      have hB1d := Lib.hid (hB1.out).drew
      have hT1d : Hid (W1.drew.heap[wr.heap.size]? = _) := Lib.hid hT1.out
      obtain ⟨s, hs⟩ : ∃ s : ByteArray, s = ⟨k.b.toArray⟩ := ⟨_, rfl⟩
      have hS0 : W1.drew.cell? ⟨wr.heap.size, 0, none⟩ = some (.slice Av kbl cv) ∧ W1.drew.cell? ⟨wr.heap.size, 2, none⟩ = some (.int .i64 kwaits) ∧ (convert 51 9 (.slice A1 kbl c1)).run Tryz.prog W1.drew = .ok (.string s) W1.drew ∧ (convert 51 9 (.slice Av kbl cv)).run Tryz.prog W1.drew = .ok (.string s) W1.drew := by
        rw [hs]
        exact ⟨by rw [block_cell hT1d.out]; rfl, by rw [block_cell hT1d.out]; rfl, run_conv_BS (RB.of_own (OB.below hO1.out (Below.refl _ _).drew)), run_conv_BS (RB.of_own (OB.below hOV1.out (Below.refl _ _).drew))⟩
      have hSH := Lib.hid hS0
      have hsE := Lib.hid hs
      clear hs hS0
      refine wp_region_noPanic ?_
      refine wp_region_held_drew (S := fun V => V.cell? ⟨wr.heap.size, 0, none⟩ = some (.slice Av kbl cv) ∧ V.cell? ⟨wr.heap.size, 2, none⟩ = some (.int .i64 kwaits) ∧ (convert 51 9 (.slice A1 kbl c1)).run Tryz.prog V = .ok (.string s) V ∧ (convert 51 9 (.slice Av kbl cv)).run Tryz.prog V = .ok (.string s) V) (by kernel_rfl) (hSH.out) (fun hS0 => ?_)
      refine wpAnyH_take (i := 0) (v := ?_) rfl (by kernel_rfl) (by kernel_rfl) (by kernel_rfl) (fun _ _ _ h => h) (Or.inl ⟨by rfl, ?_⟩) (by assumption) ?_
      rotate_left
      · intro w' hSw
        obtain ⟨q0, q1, q2, q3⟩ := hSw
        go_simp
        try with_reducible rfl
      try simp only [List.getElem_toArray, List.getElem_cons_succ, List.getElem_cons_zero, Act.put, List.setIfInBounds_toArray, List.set_cons_zero, List.set_cons_succ]
      refine wpAnyH_take (i := 1) (v := ?_) rfl (by kernel_rfl) (by kernel_rfl) (by kernel_rfl) (fun _ _ _ h => h) (Or.inl ⟨by rfl, ?_⟩) (by assumption) ?_
      rotate_left
      · intro w' hSw
        obtain ⟨q0, q1, q2, q3⟩ := hSw
        go_simp
        try with_reducible rfl
      try simp only [List.getElem_toArray, List.getElem_cons_succ, List.getElem_cons_zero, Act.put, List.setIfInBounds_toArray, List.set_cons_zero, List.set_cons_succ]
      refine wpAnyH_take (i := 2) (v := ?_) rfl (by kernel_rfl) (by kernel_rfl) (by kernel_rfl) (fun _ _ _ h => h) (Or.inl ⟨by rfl, ?_⟩) (by assumption) ?_
      rotate_left
      · intro w' hSw
        obtain ⟨q0, q1, q2, q3⟩ := hSw
        go_simp
        try with_reducible rfl
      try simp only [List.getElem_toArray, List.getElem_cons_succ, List.getElem_cons_zero, Act.put, List.setIfInBounds_toArray, List.set_cons_zero, List.set_cons_succ]
      refine wpAnyH_take (i := 3) (v := ?_) rfl (by kernel_rfl) (by kernel_rfl) (by kernel_rfl) (fun _ _ _ h => h) (Or.inl ⟨by rfl, ?_⟩) (by assumption) ?_
      rotate_left
      · intro w' hSw
        obtain ⟨q0, q1, q2, q3⟩ := hSw
        go_simp
        try with_reducible rfl
      try simp only [List.getElem_toArray, List.getElem_cons_succ, List.getElem_cons_zero, Act.put, List.setIfInBounds_toArray, List.set_cons_zero, List.set_cons_succ]
      refine wpAnyH_take (i := 4) (v := ?_) rfl (by kernel_rfl) (by kernel_rfl) (by kernel_rfl) (fun _ _ _ h => h) (Or.inl ⟨by rfl, ?_⟩) (by assumption) ?_
      rotate_left
      · intro w' hSw
        obtain ⟨q0, q1, q2, q3⟩ := hSw
        go_simp
        try with_reducible rfl
      try simp only [List.getElem_toArray, List.getElem_cons_succ, List.getElem_cons_zero, Act.put, List.setIfInBounds_toArray, List.set_cons_zero, List.set_cons_succ]
      refine wpAnyH_take (i := 5) (v := ?_) rfl (by kernel_rfl) (by kernel_rfl) (by kernel_rfl) (fun _ _ _ h => h) (Or.inl ⟨by rfl, ?_⟩) (by assumption) ?_
      rotate_left
      · intro w' hSw
        obtain ⟨q0, q1, q2, q3⟩ := hSw
        go_simp
        try with_reducible rfl
      try simp only [List.getElem_toArray, List.getElem_cons_succ, List.getElem_cons_zero, Act.put, List.setIfInBounds_toArray, List.set_cons_zero, List.set_cons_succ]
      refine wpAnyH_take (i := 6) (v := ?_) rfl (by kernel_rfl) (by kernel_rfl) (by kernel_rfl) (fun _ _ _ h => h) (Or.inl ⟨by rfl, ?_⟩) (by assumption) ?_
      rotate_left
      · intro w' hSw
        obtain ⟨q0, q1, q2, q3⟩ := hSw
        go_simp
        try with_reducible rfl
      try simp only [List.getElem_toArray, List.getElem_cons_succ, List.getElem_cons_zero, Act.put, List.setIfInBounds_toArray, List.set_cons_zero, List.set_cons_succ]
      refine wpAnyH_take (i := 7) (v := ?_) rfl (by kernel_rfl) (by kernel_rfl) (by kernel_rfl) (fun _ _ _ h => h) (Or.inl ⟨by rfl, ?_⟩) (by assumption) ?_
      rotate_left
      · intro w' hSw
        obtain ⟨q0, q1, q2, q3⟩ := hSw
        go_simp
        try with_reducible rfl
      try simp only [List.getElem_toArray, List.getElem_cons_succ, List.getElem_cons_zero, Act.put, List.setIfInBounds_toArray, List.set_cons_zero, List.set_cons_succ]
      refine wpAnyH_take (i := 8) (v := ?_) rfl (by kernel_rfl) (by kernel_rfl) (by kernel_rfl) (fun _ _ _ h => h) (Or.inl ⟨by rfl, ?_⟩) (by assumption) ?_
      rotate_left
      · intro w' hSw
        obtain ⟨q0, q1, q2, q3⟩ := hSw
        go_simp
        try with_reducible rfl
      try simp only [List.getElem_toArray, List.getElem_cons_succ, List.getElem_cons_zero, Act.put, List.setIfInBounds_toArray, List.set_cons_zero, List.set_cons_succ]
      refine wpAnyH_take (i := 10) (v := ?_) rfl (by kernel_rfl) (by kernel_rfl) (by kernel_rfl) (fun _ _ _ h => h) (Or.inl ⟨by rfl, ?_⟩) (by assumption) ?_
      rotate_left
      · intro w' hSw
        obtain ⟨q0, q1, q2, q3⟩ := hSw
        go_simp
        try with_reducible rfl
      try simp only [List.getElem_toArray, List.getElem_cons_succ, List.getElem_cons_zero, Act.put, List.setIfInBounds_toArray, List.set_cons_zero, List.set_cons_succ]
      refine wpAnyH_take (i := 11) (v := ?_) rfl (by kernel_rfl) (by kernel_rfl) (by kernel_rfl) (fun _ _ _ h => h) (Or.inl ⟨by rfl, ?_⟩) (by assumption) ?_
      rotate_left
      · intro w' hSw
        obtain ⟨q0, q1, q2, q3⟩ := hSw
        go_simp
        try with_reducible rfl
      try simp only [List.getElem_toArray, List.getElem_cons_succ, List.getElem_cons_zero, Act.put, List.setIfInBounds_toArray, List.set_cons_zero, List.set_cons_succ]
      refine wpAnyH_ready (rs := [9]) (by kernel_rfl) (by simp) ?_
      refine AllReadyH.cons rfl (fun K hK => ?_) AllReadyH.nil
      go_simp
      refine (hWt.out W1.drew (hN.out.later hB1d.out)).mono ?_
      rintro e W2 ⟨rfl, hB2_⟩
      have hB2 := Lib.hid (bnext hB1d.out hB2_)
      have hO2 := Lib.hid (OB.below (OB.below hO1.out (Below.refl _ _).drew) hB2_)
      have hOV2 := OB.below (OB.below hOV1.out (Below.refl _ _).drew) hB2_
      have hT2 := block_below hB2_ hT1d.out
      have hS2 : W2.cell? ⟨wr.heap.size, 0, none⟩ = some (.slice Av kbl cv) ∧ W2.cell? ⟨wr.heap.size, 2, none⟩ = some (.int .i64 kwaits) ∧ (convert 51 9 (.slice A1 kbl c1)).run Tryz.prog W2 = .ok (.string s) W2 ∧ (convert 51 9 (.slice Av kbl cv)).run Tryz.prog W2 = .ok (.string s) W2 :=
        ⟨by rw [block_cell hT2]; rfl, by rw [block_cell hT2]; rfl, (run_conv_BS (RB.of_own hO2.out)).trans (by rw [hsE.out]), (run_conv_BS (RB.of_own hOV2)).trans (by rw [hsE.out])⟩
      clear hB2_ hOV2 hT2
      refine hK.out _ _ (hS2) (fun hS3 => ?_)
      clear hK K
      try simp only [List.getElem_toArray, List.getElem_cons_succ, List.getElem_cons_zero, Act.put, List.setIfInBounds_toArray, List.set_cons_zero, List.set_cons_succ]
      refine wpAnyH_take (i := 12) (v := ?_) rfl (by kernel_rfl) (by kernel_rfl) (by kernel_rfl) (fun _ _ _ h => h) (Or.inl ⟨by rfl, ?_⟩) (by assumption) ?_
      rotate_left
      · intro w' hSw
        obtain ⟨q0, q1, q2, q3⟩ := hSw
        go_simp
        try with_reducible rfl
      try simp only [List.getElem_toArray, List.getElem_cons_succ, List.getElem_cons_zero, Act.put, List.setIfInBounds_toArray, List.set_cons_zero, List.set_cons_succ]
      refine wpAnyH_take (i := 13) (v := ?_) rfl (by kernel_rfl) (by kernel_rfl) (by kernel_rfl) (fun _ _ _ h => h) (Or.inl ⟨by rfl, ?_⟩) (by assumption) ?_
      rotate_left
      · intro w' hSw
        obtain ⟨q0, q1, q2, q3⟩ := hSw
        go_simp
        try with_reducible rfl
      try simp only [List.getElem_toArray, List.getElem_cons_succ, List.getElem_cons_zero, Act.put, List.setIfInBounds_toArray, List.set_cons_zero, List.set_cons_succ]
      refine wpAnyH_done (by kernel_rfl) ?_ _
      refine NoPanic.normal ?_
      clear hS0 hS2 hS3
      go_wp2_with fail
      go_loopw [54] (fun j wv => ∃ (n2 : Nat) (cs : List UInt8), n2 ≤ kbl ∧ j = .int .i64 n2 ∧ Hid (cs.length = kbl) ∧ OB wv W0.heap.size (.slice A1 kbl c1) cs ∧ Below w.heap.size w wv) (fun j _ => kbl - (intOf j).toNat)
      case atStart => exact ⟨0, k.b, by omega, rfl, Lib.hid hKE.out.1.symm, hO2.out, hB2.out⟩
      case round =>
        obtain ⟨n2, cs, hn2, rfl, hcs, hOv_, hBv_⟩ := hrel
        have hOv := Lib.hid hOv_
        have hBv := Lib.hid hBv_
        have hkb : kbl ≤ 100000 := by have := hBL.out; have := hKE.out.1; omega
        clear hOv_ hBv_
        by_cases hlt2 : n2 < kbl
        · obtain ⟨b1, hb1⟩ : ∃ b1, A1 = some ⟨b1, 0, none⟩ := by
            rcases hOv.out.2 with ⟨h', _⟩ | ⟨g', cap', cur, h', _⟩
            · have := hcs.out; omega
            · cases h'
              exact ⟨_, rfl⟩
          subst hb1
          have hge : W0.heap.size ≤ b1 := own_ge hOv.out b1 rfl
          obtain ⟨b0, hb0_⟩ : ∃ b0, cs[n2]? = some b0 := ⟨_, List.getElem?_eq_getElem (by rw [hcs.out]; exact hlt2)⟩
          have hb0 := Lib.hid hb0_
          have hOo : wr.ownsRow W0.heap.size 5 1 (.slice (some ⟨b1, 0, none⟩) kbl c1) kbl (u8s cs) := by
            have := hOv.out
            unfold OB at this
            rw [hcs.out] at this
            exact this
          have c0 : wr.cell? ⟨b1, n2, none⟩ = some (.int .u8 (b0.toNat : Int)) := by
            have := hOo.cellAt n2 (by omega)
            rw [this]
            simp [u8s, hb0_]
          have f0 : wr.frozen? ⟨b1, n2, none⟩ = false := hOo.frozenAt _
          have hbx : bits .xor .u8 (b0.toNat : Int) 3 = (((b0.toNat ^^^ 3 : Nat)) : Int) := u8_xor_nat _ _ b0.toNat_lt (by decide)
          clear hb0_
          have hOH := Lib.hid hOo
          clear hOo
          go_wp2_with fail
          have htn : ((b0 ^^^ 3).toNat : Int) = ((b0.toNat ^^^ 3 : Nat) : Int) := by
            rw [UInt8.toNat_xor]
            rfl
          obtain ⟨ho, _⟩ := World.ownsRow.stored hOH.out n2 (.int .u8 ((b0.toNat ^^^ 3 : Nat) : Int))
          go_roundw
          case rel =>
            refine ⟨n2 + 1, cs.set n2 (b0 ^^^ 3), by omega, by go_num, Lib.hid (by rw [List.length_set]; exact hcs.out), ?_, hBv.out.setCell (p := ⟨b1, n2, none⟩) (by show w.heap.size ≤ b1; have := hsz1.out; omega) _⟩
            unfold OB
            rw [u8s_set, htn, List.length_set, hcs.out]
            exact ho
          case measure => simp [intOf]; omega
        · go_wp2_with fail
          go_roundw
          case rel => exact ⟨n + 1, by omega, by go_num, hBv.out⟩
          case measure => simp [intOf]; omega
    · clear x1
      go_wp2_with fail
      refine (Parted_any p most ks wr (hN.out.later hB.out)).mono ?_
      rintro e W1 ⟨v1, rfl, hO1_, hB1_⟩
      obtain ⟨A1, c1, rfl⟩ := own_slice hO1_
      have hO1 := Lib.hid hO1_
      have hB1 := Lib.hid (bnext hB.out hB1_)
      have hcl := cutK_len cz
      clear hO1_ hB1_
      go_wp2_with fail
      go_loopw [9, 68] (fun cu j wv => ∃ n2 : Nat, n2 ≤ (cutK cz).length ∧ j = .int .i64 n2 ∧ cu = .int .i64 n2 ∧ Below W1.heap.size W1 wv) (fun _ j _ => (cutK cz).length - (intOf j).toNat)
      case atStart => exact ⟨0, by omega, rfl, rfl, Below.refl _ _⟩
      case round =>
        obtain ⟨n2, hn2, rfl, rfl, hBv_⟩ := hrel
        have hBv := Lib.hid hBv_
        clear hBv_
        by_cases hlt2 : n2 < (cutK cz).length
        · obtain ⟨hs1, hs3, hsc⟩ := cutK_at cz n2 hlt2
          have hOv := own_below hO1.out hBv.out
          obtain ⟨g1, hg1⟩ : ∃ g1, A1 = some ⟨g1, 0, none⟩ := by
            rcases hOv.2 with ⟨h', _⟩ | ⟨g', cap', cur, h', _⟩
            · simp at h'
              omega
            · cases h'
              exact ⟨_, rfl⟩
          subst hg1
          have c0 : wr.cell? ⟨g1, n2, none⟩ = some (.int .i64 (cutK cz)[n2]) := by
            have := hOv.cellAt n2 (by omega)
            rw [this]
            simp [hlt2]
          obtain ⟨sn, hsn, hsn4, hcc⟩ := (hR.out.later (bnext hB1.out hBv.out)).cuts _ ⟨hs1, hs3⟩
          rw [hsc] at hcc
          rw [hsn] at c0 hs1 hs3
          clear hsn hsc hOv
          go_wp2_with fail
          go_roundw
          case rel => exact ⟨n2 + 1, by omega, by go_num, by go_num, hBv.out⟩
          case measure => simp [intOf]; omega
        · obtain rfl : n2 = (cutK cz).length := by omega
          rw [← cntF_one]
          clear hlt2 hn2
          go_wp2_with fail
          go_loopw [9, 12] (fun cu s wv => ∃ n3 : Nat, 1 ≤ n3 ∧ n3 ≤ 4 ∧ s = .int .i64 n3 ∧ cu = .int .i64 (cntF cz n3) ∧ Below W1.heap.size W1 wv) (fun _ s _ => 4 - (intOf s).toNat)
          case atStart => exact ⟨1, by omega, by omega, rfl, rfl, hBv.out⟩
          case round =>
            obtain ⟨n3, h31, h34, rfl, rfl, hBx_⟩ := hrel
            have hBx := Lib.hid hBx_
            clear hBx_
            obtain ⟨hc0, hc3⟩ := cntF_ok cz n3
            by_cases hlt3 : n3 ≤ 3
            · obtain ⟨sn, hsn, hsn4, hcc⟩ := (hR.out.later (bnext hB1.out hBx.out)).cuts n3 ⟨by omega, by omega⟩
              obtain rfl : sn = n3 := by omega
              have hst := cntF_step cz sn ⟨h31, hlt3⟩
              cases hca : cutAt cz sn
              · rw [hca] at hst hcc
                simp only [Bool.false_eq_true, if_false, Int.add_zero] at hst
                have hST := Lib.hid hst
                clear hst hca hsn
                go_wp2_with fail
                go_roundw
                case rel => exact ⟨sn + 1, by omega, by omega, by go_num, by rw [hST.out], hBx.out⟩
                case measure => simp [intOf]; omega
              · rw [hca] at hst hcc
                simp only [if_true] at hst
                have hST := Lib.hid hst
                clear hst hca hsn
                go_wp2_with fail
                go_roundw
                case rel => exact ⟨sn + 1, by omega, by omega, by go_num, by rw [hST.out]; go_num, hBx.out⟩
                case measure => simp [intOf]; omega
            · obtain rfl : n3 = 4 := by omega
              rw [cntF_end]
              have hP := Packet_any (cz := cz) p most ks ks.length
              rw [bytesAt_out (.inr (Int.le_refl _))] at hP
              have hW := Waits_any (cz := cz) p most ks (-1)
              rw [waitsAt_out (.inl (by decide))] at hW
              have hPH := Lib.hid hP
              have hWH := Lib.hid hW
              have hBy := Lib.hid (bnext hB1.out hBx.out)
              clear hP hW
              go_wp2_with fail
              refine (Len_net p most ks _ (hN.out.later hBy.out)).mono ?_
              rintro e W2 ⟨rfl, rfl⟩
              go_wp2_with fail
              refine (hPH.out _ (hN.out.later hBy.out)).mono ?_
              rintro e W3 ⟨A3, c3, rfl, _, hB3_⟩
              have hB3 := Lib.hid (bnext hBy.out hB3_)
              clear hB3_
              go_wp2_with fail
              refine (hWH.out _ (hN.out.later hB3.out)).mono ?_
              rintro e W4 ⟨rfl, hB4_⟩
              have hB4 := Lib.hid (bnext hB3.out hB4_)
              clear hB4_
              go_wp2_with fail
              go_ret
              exact ⟨rfl, hB4.out⟩

end Go.Proofs.YteeiacfddjhhkaaGreatDoor
