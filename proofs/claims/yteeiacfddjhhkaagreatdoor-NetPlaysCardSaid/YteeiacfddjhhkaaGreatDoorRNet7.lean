/- The document's net: Does. The document's net: Does: a bit is turned. -/
import Derived.Test.YteeiacfddjhhkaaGreatDoorRNet3
import Derived.StillTailTactics
import Derived.Deep.QuietTactic
import Derived.BigQuiet
import Derived.Test.YteeiacfddjhhkaaGreatDoorPSteps
import Derived.Test.YteeiacfddjhhkaaGreatDoorROps2
namespace Go.Proofs.YteeiacfddjhhkaaGreatDoor
open Go.RowKit
set_option maxRecDepth 100000
variable {cz : Cuts}
theorem insert_erase {α : Type} : ∀ (l : List α) (i : Nat) (x : α), i < l.length → (l.eraseIdx i).insertIdx i x = l.set i x
  | [], i, _, h => by simp at h
  | a :: l, 0, x, _ => by simp
  | a :: l, i + 1, x, h => by
    rw [List.eraseIdx_cons_succ, List.insertIdx_succ_cons, insert_erase l i x (by simpa using h)]
    rfl
theorem rdoes_none (p : Nat) (most : Int) (ks : List PK) (kind i n : Int) (w : World) (h : RefAt cz w p most ks) (hi : i < 0 ∨ (ks.length : Int) ≤ i) :
    Calls Tryz.prog 51 #[.pointer (some ⟨p, 0, none⟩), .int .i64 kind, .int .i64 i, .int .i64 n] w fun e w' => e = .returned (.int .i64 3) ∧ w = w' := by
  obtain ⟨A, c, vs, h1, _⟩ := h
  have x1 : w.cell? ⟨p, 1, none⟩ = some (.slice A ks.length c) := by rw [block_cell h1]; rfl
  clear h1
  by_cases hneg : i < 0
  · clear hi
    go_enter Tryz.func51, Tryz.ntmps51
    go_wp2_with fail
    refine bodyPost_ret (v := .int .i64 3) ?_ rfl ⟨rfl, rfl⟩
    simp [results, Tryz.results51, go_sem]
  · have hge : (ks.length : Int) ≤ i := by omega
    clear hi
    go_enter Tryz.func51, Tryz.ntmps51
    go_wp2_with fail
    refine bodyPost_ret (v := .int .i64 3) ?_ rfl ⟨rfl, rfl⟩
    simp [results, Tryz.results51, go_sem]
set_option maxHeartbeats 2000000 in
theorem rdrop_ok (p : Nat) (most : Int) (ks : List PK) (i : Nat) (k : PK) (n : Int) (w : World) (h : RefAt cz w p most ks) (hk : ks[i]? = some k) (hl : ks.length ≤ 99999) :
    Calls Tryz.prog 51 #[.pointer (some ⟨p, 0, none⟩), .int .i64 0, .int .i64 i, .int .i64 n] w fun e w' => e = .returned (.int .i64 0) ∧ RefAt cz w' p most (ks.eraseIdx i) ∧ Kept (· = p) w w' := by
  have hi : i < ks.length := (List.getElem?_eq_some_iff.1 hk).1
  have hN := Lib.hid h
  have hpw : Hid (p < w.heap.size) := Lib.hid h.lt
  obtain ⟨A, c, vs, h1, h2, h3, h4⟩ := h
  obtain ⟨v, hv⟩ : ∃ v, vs[i]? = some v := ⟨_, List.getElem?_eq_getElem (by omega)⟩
  obtain ⟨hov, hbl⟩ := h4 i v k hv hk
  obtain ⟨Av, cv, rfl⟩ := own_slice hov
  obtain ⟨g, cap, hA⟩ : ∃ g cap, Value.slice A ks.length c = .slice (some ⟨g, 0, none⟩) ks.length cap := by
    rcases h2.2 with ⟨_, h'⟩ | ⟨g', cap', cur, h', _⟩
    · omega
    · exact ⟨g', cap', h'⟩
  cases hA
  have x0 : w.cell? ⟨p, 0, none⟩ = some (.int .i64 most) := by rw [block_cell h1]; rfl
  have x1 : w.cell? ⟨p, 1, none⟩ = some (.slice (some ⟨g, 0, none⟩) ks.length c) := by rw [block_cell h1]; rfl
  have y0 : w.cell? ⟨g, i * 3, none⟩ = some (.slice Av k.b.length cv) := by rw [h2.cellAt _ (by omega)]; exact (pksC_get vs ks i _ k hv hk).1
  have y1 : w.cell? ⟨g, i * 3 + 1, none⟩ = some (.int .i64 k.site) := by rw [h2.cellAt _ (by omega)]; exact (pksC_get vs ks i _ k hv hk).2.1
  have y2 : w.cell? ⟨g, i * 3 + 2, none⟩ = some (.int .i64 k.waits) := by rw [h2.cellAt _ (by omega)]; exact (pksC_get vs ks i _ k hv hk).2.2
  have hK := Lib.hid hk
  have hOV := Lib.hid hov
  have hBL := Lib.hid hbl
  clear h1 h2 h3 h4 hv hk hov hbl
  obtain ⟨kbl, hkbl⟩ : ∃ n, n = k.b.length := ⟨_, rfl⟩
  obtain ⟨ksite, hks⟩ : ∃ n, n = k.site := ⟨_, rfl⟩
  obtain ⟨kwaits, hkw⟩ : ∃ n, n = k.waits := ⟨_, rfl⟩
  rw [← hkbl] at y0 hOV
  rw [← hks] at y1
  rw [← hkw] at y2
  have hKE := Lib.hid (And.intro hkbl (And.intro hks hkw))
  clear hkbl hks hkw
  have hB0 := Lib.hid (below_alloc (Below.refl _ w) (.cells #[.slice Av kbl cv, .int .i64 ksite, .int .i64 kwaits] 97))
  have ht0 := heap_alloc_new w (.cells #[.slice Av kbl cv, .int .i64 ksite, .int .i64 kwaits] 97)
  have hT0 := Lib.hid ht0
  have x0a := cell_below hB0.out x0
  have x1a := cell_below hB0.out x1
  go_enter Tryz.func51, Tryz.ntmps51
  go_wp2_with fail
  generalize (w.alloc (.cells #[.slice Av kbl cv, .int .i64 ksite, .int .i64 kwaits] 97)) = W0 at *
  refine (take_any p most ks i k _ (hN.out.later hB0.out) hK.out (by omega)).mono ?_
  rintro e w1 ⟨A1, c1, rfl, _, hR1_, hK1_⟩
  have hR1 := Lib.hid hR1_
  have hK1 := Lib.hid ((Kept.of_below (· = p) hB0.out).trans hK1_ (fun _ _ h => h))
  clear hR1_ hK1_
  go_wp2_with fail
  refine bodyPost_ret (v := .int .i64 0) ?_ rfl ⟨rfl, hR1.out, hK1.out⟩
  simp [results, Tryz.results51, go_sem]
set_option maxHeartbeats 2000000 in
theorem rtwice_full (p : Nat) (most : Int) (ks : List PK) (i : Nat) (k : PK) (n : Int) (w : World) (h : RefAt cz w p most ks) (hk : ks[i]? = some k) (hl : ks.length ≤ 99999) (hf : most ≤ (ks.length : Int)) :
    Calls Tryz.prog 51 #[.pointer (some ⟨p, 0, none⟩), .int .i64 1, .int .i64 i, .int .i64 n] w fun e w' => e = .returned (.int .i64 5) ∧ RefAt cz w' p most (ks) ∧ Kept (· = p) w w' := by
  have hi : i < ks.length := (List.getElem?_eq_some_iff.1 hk).1
  have hN := Lib.hid h
  have hpw : Hid (p < w.heap.size) := Lib.hid h.lt
  obtain ⟨A, c, vs, h1, h2, h3, h4⟩ := h
  obtain ⟨v, hv⟩ : ∃ v, vs[i]? = some v := ⟨_, List.getElem?_eq_getElem (by omega)⟩
  obtain ⟨hov, hbl⟩ := h4 i v k hv hk
  obtain ⟨Av, cv, rfl⟩ := own_slice hov
  obtain ⟨g, cap, hA⟩ : ∃ g cap, Value.slice A ks.length c = .slice (some ⟨g, 0, none⟩) ks.length cap := by
    rcases h2.2 with ⟨_, h'⟩ | ⟨g', cap', cur, h', _⟩
    · omega
    · exact ⟨g', cap', h'⟩
  cases hA
  have x0 : w.cell? ⟨p, 0, none⟩ = some (.int .i64 most) := by rw [block_cell h1]; rfl
  have x1 : w.cell? ⟨p, 1, none⟩ = some (.slice (some ⟨g, 0, none⟩) ks.length c) := by rw [block_cell h1]; rfl
  have y0 : w.cell? ⟨g, i * 3, none⟩ = some (.slice Av k.b.length cv) := by rw [h2.cellAt _ (by omega)]; exact (pksC_get vs ks i _ k hv hk).1
  have y1 : w.cell? ⟨g, i * 3 + 1, none⟩ = some (.int .i64 k.site) := by rw [h2.cellAt _ (by omega)]; exact (pksC_get vs ks i _ k hv hk).2.1
  have y2 : w.cell? ⟨g, i * 3 + 2, none⟩ = some (.int .i64 k.waits) := by rw [h2.cellAt _ (by omega)]; exact (pksC_get vs ks i _ k hv hk).2.2
  have hK := Lib.hid hk
  have hOV := Lib.hid hov
  have hBL := Lib.hid hbl
  clear h1 h2 h3 h4 hv hk hov hbl
  obtain ⟨kbl, hkbl⟩ : ∃ n, n = k.b.length := ⟨_, rfl⟩
  obtain ⟨ksite, hks⟩ : ∃ n, n = k.site := ⟨_, rfl⟩
  obtain ⟨kwaits, hkw⟩ : ∃ n, n = k.waits := ⟨_, rfl⟩
  rw [← hkbl] at y0 hOV
  rw [← hks] at y1
  rw [← hkw] at y2
  have hKE := Lib.hid (And.intro hkbl (And.intro hks hkw))
  clear hkbl hks hkw
  have hB0 := Lib.hid (below_alloc (Below.refl _ w) (.cells #[.slice Av kbl cv, .int .i64 ksite, .int .i64 kwaits] 97))
  have ht0 := heap_alloc_new w (.cells #[.slice Av kbl cv, .int .i64 ksite, .int .i64 kwaits] 97)
  have hT0 := Lib.hid ht0
  have x0a := cell_below hB0.out x0
  have x1a := cell_below hB0.out x1
  have hd : decide ((ks.length : Int) ≥ most) = true := decide_eq_true hf
  go_enter Tryz.func51, Tryz.ntmps51
  go_wp2_with fail
  generalize (w.alloc (.cells #[.slice Av kbl cv, .int .i64 ksite, .int .i64 kwaits] 97)) = W0 at *
  go_quiet (fail)
  go_wp2_with fail
  refine bodyPost_ret (v := .int .i64 5) ?_ rfl ⟨rfl, hN.out.later (below_drewN hB0.out nq), Kept.of_below _ (below_drewN hB0.out nq)⟩
  simp [results, Tryz.results51, go_sem]
set_option maxHeartbeats 2000000 in
theorem rtwice_ok (p : Nat) (most : Int) (ks : List PK) (i : Nat) (k : PK) (n : Int) (w : World) (h : RefAt cz w p most ks) (hk : ks[i]? = some k) (hl : ks.length ≤ 99999) (hf : (ks.length : Int) < most) :
    Calls Tryz.prog 51 #[.pointer (some ⟨p, 0, none⟩), .int .i64 1, .int .i64 i, .int .i64 n] w fun e w' => e = .returned (.int .i64 0) ∧ RefAt cz w' p most (ks ++ [{ k with waits := 0 }]) ∧ Kept (· = p) w w' := by
  have hi : i < ks.length := (List.getElem?_eq_some_iff.1 hk).1
  have hN := Lib.hid h
  have hpw : Hid (p < w.heap.size) := Lib.hid h.lt
  obtain ⟨A, c, vs, h1, h2, h3, h4⟩ := h
  obtain ⟨v, hv⟩ : ∃ v, vs[i]? = some v := ⟨_, List.getElem?_eq_getElem (by omega)⟩
  obtain ⟨hov, hbl⟩ := h4 i v k hv hk
  obtain ⟨Av, cv, rfl⟩ := own_slice hov
  obtain ⟨g, cap, hA⟩ : ∃ g cap, Value.slice A ks.length c = .slice (some ⟨g, 0, none⟩) ks.length cap := by
    rcases h2.2 with ⟨_, h'⟩ | ⟨g', cap', cur, h', _⟩
    · omega
    · exact ⟨g', cap', h'⟩
  cases hA
  have x0 : w.cell? ⟨p, 0, none⟩ = some (.int .i64 most) := by rw [block_cell h1]; rfl
  have x1 : w.cell? ⟨p, 1, none⟩ = some (.slice (some ⟨g, 0, none⟩) ks.length c) := by rw [block_cell h1]; rfl
  have y0 : w.cell? ⟨g, i * 3, none⟩ = some (.slice Av k.b.length cv) := by rw [h2.cellAt _ (by omega)]; exact (pksC_get vs ks i _ k hv hk).1
  have y1 : w.cell? ⟨g, i * 3 + 1, none⟩ = some (.int .i64 k.site) := by rw [h2.cellAt _ (by omega)]; exact (pksC_get vs ks i _ k hv hk).2.1
  have y2 : w.cell? ⟨g, i * 3 + 2, none⟩ = some (.int .i64 k.waits) := by rw [h2.cellAt _ (by omega)]; exact (pksC_get vs ks i _ k hv hk).2.2
  have hK := Lib.hid hk
  have hOV := Lib.hid hov
  have hBL := Lib.hid hbl
  clear h1 h2 h3 h4 hv hk hov hbl
  obtain ⟨kbl, hkbl⟩ : ∃ n, n = k.b.length := ⟨_, rfl⟩
  obtain ⟨ksite, hks⟩ : ∃ n, n = k.site := ⟨_, rfl⟩
  obtain ⟨kwaits, hkw⟩ : ∃ n, n = k.waits := ⟨_, rfl⟩
  rw [← hkbl] at y0 hOV
  rw [← hks] at y1
  rw [← hkw] at y2
  have hKE := Lib.hid (And.intro hkbl (And.intro hks hkw))
  clear hkbl hks hkw
  have hB0 := Lib.hid (below_alloc (Below.refl _ w) (.cells #[.slice Av kbl cv, .int .i64 ksite, .int .i64 kwaits] 97))
  have ht0 := heap_alloc_new w (.cells #[.slice Av kbl cv, .int .i64 ksite, .int .i64 kwaits] 97)
  have hT0 := Lib.hid ht0
  have x0a := cell_below hB0.out x0
  have x1a := cell_below hB0.out x1
  have hd : decide ((ks.length : Int) ≥ most) = false := decide_eq_false (by omega)
  go_enter Tryz.func51, Tryz.ntmps51
  go_wp2_with fail
  go_quiet (fail)
  have hBq := Lib.hid (below_drewN hB0.out nq)
  have htq : ((w.alloc (.cells #[.slice Av kbl cv, .int .i64 ksite, .int .i64 kwaits] 97)).drewN nq).heap[w.heap.size]? = some (.cells #[.slice Av kbl cv, .int .i64 ksite, .int .i64 kwaits] 97 (0, 0)) := hT0.out
  generalize (w.alloc (.cells #[.slice Av kbl cv, .int .i64 ksite, .int .i64 kwaits] 97)).drewN nq = W1 at *
  have zq : W1.cell? ⟨w.heap.size, 2, none⟩ = some (.int .i64 kwaits) := by rw [block_cell htq]; rfl
  have fq : W1.frozen? ⟨w.heap.size, 2, none⟩ = false := block_free htq 2
  have htw : (W1.setCell ⟨w.heap.size, 2, none⟩ (.int .i64 0)).heap[w.heap.size]? = some (.cells #[.slice Av kbl cv, .int .i64 ksite, .int .i64 0] 97 (0, 0)) := block_setCell htq 2 _
  have hBw := Lib.hid (kept_below hBq.out (Kept.setCell (S := (· = w.heap.size)) (p := ⟨w.heap.size, 2, none⟩) (Kept.refl (· = w.heap.size) W1) (.inl rfl) (.int .i64 0)) (by rintro _ rfl; exact Nat.le_refl _))
  have hTW := Lib.hid htw
  clear htq htw ht0 x0a x1a
  go_wp2_with fail
  generalize W1.setCell ⟨w.heap.size, 2, none⟩ (.int .i64 0) = W2 at *
  have x1w : W2.cell? ⟨p, 1, none⟩ = some (.slice (some ⟨g, 0, none⟩) ks.length c) := cell_below hBw.out x1
  have z0w : W2.cell? ⟨w.heap.size, 0, none⟩ = some (.slice Av kbl cv) := by rw [block_cell hTW.out]; rfl
  have z1w : W2.cell? ⟨w.heap.size, 1, none⟩ = some (.int .i64 ksite) := by rw [block_cell hTW.out]; rfl
  have z2w : W2.cell? ⟨w.heap.size, 2, none⟩ = some (.int .i64 0) := by rw [block_cell hTW.out]; rfl
  go_still_tail 7, (by kernel_rfl)
  change wpList _ _ _ _ _ W2.drew
  have hBd := Lib.hid hBw.out.drew
  have x1d : W2.drew.cell? ⟨p, 1, none⟩ = some (.slice (some ⟨g, 0, none⟩) ks.length c) := cell_below hBd.out x1
  have z0d : W2.drew.cell? ⟨w.heap.size, 0, none⟩ = some (.slice Av kbl cv) := by show W2.cell? _ = _; rw [block_cell hTW.out]; rfl
  have z1d : W2.drew.cell? ⟨w.heap.size, 1, none⟩ = some (.int .i64 ksite) := by show W2.cell? _ = _; rw [block_cell hTW.out]; rfl
  have z2d : W2.drew.cell? ⟨w.heap.size, 2, none⟩ = some (.int .i64 0) := by show W2.cell? _ = _; rw [block_cell hTW.out]; rfl
  generalize W2.drew = W3 at *
  go_wp2_with fail
  refine (put_any p most ks ks.length { k with waits := 0 } Av cv kbl _ (hN.out.later hBd.out) (Nat.le_refl _) (by omega) hKE.out.1 hBL.out (hOV.out.below hBd.out) ksite 0 hKE.out.2.1 rfl).mono ?_
  rintro e w2 ⟨rfl, hR_, hK_⟩
  rw [List.insertIdx_length_self] at hR_
  have hR2 := Lib.hid hR_
  have hK2 := Lib.hid ((Kept.of_below (· = p) hBd.out).trans hK_ (fun _ _ h => h))
  clear hR_ hK_
  go_wp2_with fail
  refine bodyPost_ret (v := .int .i64 0) ?_ rfl ⟨rfl, hR2.out, hK2.out⟩
  simp [results, Tryz.results51, go_sem]
set_option maxHeartbeats 2000000 in
theorem rmove_bad (p : Nat) (most : Int) (ks : List PK) (i : Nat) (k : PK) (n : Int) (w : World) (h : RefAt cz w p most ks) (hk : ks[i]? = some k) (hl : ks.length ≤ 99999) (hn : n < 0 ∨ (ks.length : Int) ≤ n) :
    Calls Tryz.prog 51 #[.pointer (some ⟨p, 0, none⟩), .int .i64 2, .int .i64 i, .int .i64 n] w fun e w' => e = .returned (.int .i64 2) ∧ RefAt cz w' p most ks ∧ Kept (· = p) w w' := by
  have hi : i < ks.length := (List.getElem?_eq_some_iff.1 hk).1
  have hN := Lib.hid h
  have hpw : Hid (p < w.heap.size) := Lib.hid h.lt
  obtain ⟨A, c, vs, h1, h2, h3, h4⟩ := h
  obtain ⟨v, hv⟩ : ∃ v, vs[i]? = some v := ⟨_, List.getElem?_eq_getElem (by omega)⟩
  obtain ⟨hov, hbl⟩ := h4 i v k hv hk
  obtain ⟨Av, cv, rfl⟩ := own_slice hov
  obtain ⟨g, cap, hA⟩ : ∃ g cap, Value.slice A ks.length c = .slice (some ⟨g, 0, none⟩) ks.length cap := by
    rcases h2.2 with ⟨_, h'⟩ | ⟨g', cap', cur, h', _⟩
    · omega
    · exact ⟨g', cap', h'⟩
  cases hA
  have x0 : w.cell? ⟨p, 0, none⟩ = some (.int .i64 most) := by rw [block_cell h1]; rfl
  have x1 : w.cell? ⟨p, 1, none⟩ = some (.slice (some ⟨g, 0, none⟩) ks.length c) := by rw [block_cell h1]; rfl
  have y0 : w.cell? ⟨g, i * 3, none⟩ = some (.slice Av k.b.length cv) := by rw [h2.cellAt _ (by omega)]; exact (pksC_get vs ks i _ k hv hk).1
  have y1 : w.cell? ⟨g, i * 3 + 1, none⟩ = some (.int .i64 k.site) := by rw [h2.cellAt _ (by omega)]; exact (pksC_get vs ks i _ k hv hk).2.1
  have y2 : w.cell? ⟨g, i * 3 + 2, none⟩ = some (.int .i64 k.waits) := by rw [h2.cellAt _ (by omega)]; exact (pksC_get vs ks i _ k hv hk).2.2
  have hK := Lib.hid hk
  have hOV := Lib.hid hov
  have hBL := Lib.hid hbl
  clear h1 h2 h3 h4 hv hk hov hbl
  obtain ⟨kbl, hkbl⟩ : ∃ n, n = k.b.length := ⟨_, rfl⟩
  obtain ⟨ksite, hks⟩ : ∃ n, n = k.site := ⟨_, rfl⟩
  obtain ⟨kwaits, hkw⟩ : ∃ n, n = k.waits := ⟨_, rfl⟩
  rw [← hkbl] at y0 hOV
  rw [← hks] at y1
  rw [← hkw] at y2
  have hKE := Lib.hid (And.intro hkbl (And.intro hks hkw))
  clear hkbl hks hkw
  have hB0 := Lib.hid (below_alloc (Below.refl _ w) (.cells #[.slice Av kbl cv, .int .i64 ksite, .int .i64 kwaits] 97))
  have ht0 := heap_alloc_new w (.cells #[.slice Av kbl cv, .int .i64 ksite, .int .i64 kwaits] 97)
  have hT0 := Lib.hid ht0
  have x0a := cell_below hB0.out x0
  have x1a := cell_below hB0.out x1
  by_cases hneg : n < 0
  · clear hn
    go_enter Tryz.func51, Tryz.ntmps51
    go_wp2_with fail
    refine bodyPost_ret (v := .int .i64 2) ?_ rfl ⟨rfl, hN.out.later hB0.out, Kept.of_below _ hB0.out⟩
    simp [results, Tryz.results51, go_sem]
  · have hge : (ks.length : Int) ≤ n := by omega
    clear hn
    go_enter Tryz.func51, Tryz.ntmps51
    go_wp2_with fail
    refine bodyPost_ret (v := .int .i64 2) ?_ rfl ⟨rfl, hN.out.later hB0.out, Kept.of_below _ hB0.out⟩
    simp [results, Tryz.results51, go_sem]
set_option maxHeartbeats 2000000 in
theorem rmove_ok (p : Nat) (most : Int) (ks : List PK) (i : Nat) (k : PK) (n : Nat) (w : World) (h : RefAt cz w p most ks) (hk : ks[i]? = some k) (hl : ks.length ≤ 99999) (hn : n < ks.length) :
    Calls Tryz.prog 51 #[.pointer (some ⟨p, 0, none⟩), .int .i64 2, .int .i64 i, .int .i64 n] w fun e w' => e = .returned (.int .i64 0) ∧ RefAt cz w' p most ((ks.eraseIdx i).insertIdx n k) ∧ Kept (· = p) w w' := by
  have hi : i < ks.length := (List.getElem?_eq_some_iff.1 hk).1
  have hN := Lib.hid h
  have hpw : Hid (p < w.heap.size) := Lib.hid h.lt
  obtain ⟨A, c, vs, h1, h2, h3, h4⟩ := h
  obtain ⟨v, hv⟩ : ∃ v, vs[i]? = some v := ⟨_, List.getElem?_eq_getElem (by omega)⟩
  obtain ⟨hov, hbl⟩ := h4 i v k hv hk
  obtain ⟨Av, cv, rfl⟩ := own_slice hov
  obtain ⟨g, cap, hA⟩ : ∃ g cap, Value.slice A ks.length c = .slice (some ⟨g, 0, none⟩) ks.length cap := by
    rcases h2.2 with ⟨_, h'⟩ | ⟨g', cap', cur, h', _⟩
    · omega
    · exact ⟨g', cap', h'⟩
  cases hA
  have x0 : w.cell? ⟨p, 0, none⟩ = some (.int .i64 most) := by rw [block_cell h1]; rfl
  have x1 : w.cell? ⟨p, 1, none⟩ = some (.slice (some ⟨g, 0, none⟩) ks.length c) := by rw [block_cell h1]; rfl
  have y0 : w.cell? ⟨g, i * 3, none⟩ = some (.slice Av k.b.length cv) := by rw [h2.cellAt _ (by omega)]; exact (pksC_get vs ks i _ k hv hk).1
  have y1 : w.cell? ⟨g, i * 3 + 1, none⟩ = some (.int .i64 k.site) := by rw [h2.cellAt _ (by omega)]; exact (pksC_get vs ks i _ k hv hk).2.1
  have y2 : w.cell? ⟨g, i * 3 + 2, none⟩ = some (.int .i64 k.waits) := by rw [h2.cellAt _ (by omega)]; exact (pksC_get vs ks i _ k hv hk).2.2
  have hK := Lib.hid hk
  have hOV := Lib.hid hov
  have hBL := Lib.hid hbl
  clear h1 h2 h3 h4 hv hk hov hbl
  obtain ⟨kbl, hkbl⟩ : ∃ n, n = k.b.length := ⟨_, rfl⟩
  obtain ⟨ksite, hks⟩ : ∃ n, n = k.site := ⟨_, rfl⟩
  obtain ⟨kwaits, hkw⟩ : ∃ n, n = k.waits := ⟨_, rfl⟩
  rw [← hkbl] at y0 hOV
  rw [← hks] at y1
  rw [← hkw] at y2
  have hKE := Lib.hid (And.intro hkbl (And.intro hks hkw))
  clear hkbl hks hkw
  have hB0 := Lib.hid (below_alloc (Below.refl _ w) (.cells #[.slice Av kbl cv, .int .i64 ksite, .int .i64 kwaits] 97))
  have ht0 := heap_alloc_new w (.cells #[.slice Av kbl cv, .int .i64 ksite, .int .i64 kwaits] 97)
  have hT0 := Lib.hid ht0
  have x0a := cell_below hB0.out x0
  have x1a := cell_below hB0.out x1
  go_enter Tryz.func51, Tryz.ntmps51
  go_wp2_with fail
  generalize (w.alloc (.cells #[.slice Av kbl cv, .int .i64 ksite, .int .i64 kwaits] 97)) = W0 at *
  refine (take_any p most ks i k _ (hN.out.later hB0.out) hK.out (by omega)).mono ?_
  rintro e w1 ⟨A1, c1, rfl, _, hR1_, hK1_⟩
  have hR1 := Lib.hid hR1_
  have ht1 := (hK1_.block _ (lt_of_block hT0.out) (by have := hpw.out; omega)).trans hT0.out
  have z0 : w1.cell? ⟨w.heap.size, 0, none⟩ = some (.slice Av kbl cv) := by rw [block_cell ht1]; rfl
  have z1 : w1.cell? ⟨w.heap.size, 1, none⟩ = some (.int .i64 ksite) := by rw [block_cell ht1]; rfl
  have z2 : w1.cell? ⟨w.heap.size, 2, none⟩ = some (.int .i64 kwaits) := by rw [block_cell ht1]; rfl
  have hK1 := Lib.hid ((Kept.of_below (· = p) hB0.out).trans hK1_ (fun _ _ h => h))
  have hOV1 := Lib.hid (own_move (w1 := w1) (hOV.out.below hB0.out) fun q hq => hK1_.block q (by obtain ⟨cur, e⟩ := own_type (hOV.out.below hB0.out) hq; exact lt_of_block e) (by
    rintro rfl
    obtain ⟨cur, e⟩ := own_type (hOV.out.below hB0.out) hq
    obtain ⟨_, _, _, e2, _⟩ := hN.out.later hB0.out
    rw [e2] at e
    simp at e))
  clear hR1_ hK1_ ht1
  go_wp2_with fail
  refine (put_any p most (ks.eraseIdx i) n k Av cv kbl _ hR1.out (by rw [List.length_eraseIdx_of_lt hi]; omega) (by rw [List.length_eraseIdx_of_lt hi]; omega) hKE.out.1 hBL.out hOV1.out ksite kwaits hKE.out.2.1 hKE.out.2.2).mono ?_
  rintro e w2 ⟨rfl, hR_, hK_⟩
  have hR2 := Lib.hid hR_
  have hK2 := Lib.hid (hK1.out.trans hK_ (fun _ _ h => h))
  clear hR_ hK_
  go_wp2_with fail
  refine bodyPost_ret (v := .int .i64 0) ?_ rfl ⟨rfl, hR2.out, hK2.out⟩
  simp [results, Tryz.results51, go_sem]
set_option maxHeartbeats 2000000 in
theorem rhold_bad (p : Nat) (most : Int) (ks : List PK) (i : Nat) (k : PK) (n : Int) (w : World) (h : RefAt cz w p most ks) (hk : ks[i]? = some k) (hl : ks.length ≤ 99999) (hn : n < 0 ∨ 1000 < n) :
    Calls Tryz.prog 51 #[.pointer (some ⟨p, 0, none⟩), .int .i64 3, .int .i64 i, .int .i64 n] w fun e w' => e = .returned (.int .i64 2) ∧ RefAt cz w' p most ks ∧ Kept (· = p) w w' := by
  have hi : i < ks.length := (List.getElem?_eq_some_iff.1 hk).1
  have hN := Lib.hid h
  have hpw : Hid (p < w.heap.size) := Lib.hid h.lt
  obtain ⟨A, c, vs, h1, h2, h3, h4⟩ := h
  obtain ⟨v, hv⟩ : ∃ v, vs[i]? = some v := ⟨_, List.getElem?_eq_getElem (by omega)⟩
  obtain ⟨hov, hbl⟩ := h4 i v k hv hk
  obtain ⟨Av, cv, rfl⟩ := own_slice hov
  obtain ⟨g, cap, hA⟩ : ∃ g cap, Value.slice A ks.length c = .slice (some ⟨g, 0, none⟩) ks.length cap := by
    rcases h2.2 with ⟨_, h'⟩ | ⟨g', cap', cur, h', _⟩
    · omega
    · exact ⟨g', cap', h'⟩
  cases hA
  have x0 : w.cell? ⟨p, 0, none⟩ = some (.int .i64 most) := by rw [block_cell h1]; rfl
  have x1 : w.cell? ⟨p, 1, none⟩ = some (.slice (some ⟨g, 0, none⟩) ks.length c) := by rw [block_cell h1]; rfl
  have y0 : w.cell? ⟨g, i * 3, none⟩ = some (.slice Av k.b.length cv) := by rw [h2.cellAt _ (by omega)]; exact (pksC_get vs ks i _ k hv hk).1
  have y1 : w.cell? ⟨g, i * 3 + 1, none⟩ = some (.int .i64 k.site) := by rw [h2.cellAt _ (by omega)]; exact (pksC_get vs ks i _ k hv hk).2.1
  have y2 : w.cell? ⟨g, i * 3 + 2, none⟩ = some (.int .i64 k.waits) := by rw [h2.cellAt _ (by omega)]; exact (pksC_get vs ks i _ k hv hk).2.2
  have hK := Lib.hid hk
  have hOV := Lib.hid hov
  have hBL := Lib.hid hbl
  clear h1 h2 h3 h4 hv hk hov hbl
  obtain ⟨kbl, hkbl⟩ : ∃ n, n = k.b.length := ⟨_, rfl⟩
  obtain ⟨ksite, hks⟩ : ∃ n, n = k.site := ⟨_, rfl⟩
  obtain ⟨kwaits, hkw⟩ : ∃ n, n = k.waits := ⟨_, rfl⟩
  rw [← hkbl] at y0 hOV
  rw [← hks] at y1
  rw [← hkw] at y2
  have hKE := Lib.hid (And.intro hkbl (And.intro hks hkw))
  clear hkbl hks hkw
  have hB0 := Lib.hid (below_alloc (Below.refl _ w) (.cells #[.slice Av kbl cv, .int .i64 ksite, .int .i64 kwaits] 97))
  have ht0 := heap_alloc_new w (.cells #[.slice Av kbl cv, .int .i64 ksite, .int .i64 kwaits] 97)
  have hT0 := Lib.hid ht0
  have x0a := cell_below hB0.out x0
  have x1a := cell_below hB0.out x1
  by_cases hneg : n < 0
  · clear hn
    go_enter Tryz.func51, Tryz.ntmps51
    go_wp2_with fail
    refine bodyPost_ret (v := .int .i64 2) ?_ rfl ⟨rfl, hN.out.later hB0.out, Kept.of_below _ hB0.out⟩
    simp [results, Tryz.results51, go_sem]
  · have hge : 1000 < n := by omega
    clear hn
    go_enter Tryz.func51, Tryz.ntmps51
    go_wp2_with fail
    refine bodyPost_ret (v := .int .i64 2) ?_ rfl ⟨rfl, hN.out.later hB0.out, Kept.of_below _ hB0.out⟩
    simp [results, Tryz.results51, go_sem]
set_option maxHeartbeats 2000000 in
theorem rhold_ok (p : Nat) (most : Int) (ks : List PK) (i : Nat) (k : PK) (n : Int) (w : World) (h : RefAt cz w p most ks) (hk : ks[i]? = some k) (hl : ks.length ≤ 99999) (hn : 0 ≤ n ∧ n ≤ 1000) :
    Calls Tryz.prog 51 #[.pointer (some ⟨p, 0, none⟩), .int .i64 3, .int .i64 i, .int .i64 n] w fun e w' => e = .returned (.int .i64 0) ∧ RefAt cz w' p most (ks.set i { k with waits := n }) ∧ Kept (· = p) w w' := by
  have hi : i < ks.length := (List.getElem?_eq_some_iff.1 hk).1
  have hN := Lib.hid h
  have hpw : Hid (p < w.heap.size) := Lib.hid h.lt
  obtain ⟨A, c, vs, h1, h2, h3, h4⟩ := h
  obtain ⟨v, hv⟩ : ∃ v, vs[i]? = some v := ⟨_, List.getElem?_eq_getElem (by omega)⟩
  obtain ⟨hov, hbl⟩ := h4 i v k hv hk
  obtain ⟨Av, cv, rfl⟩ := own_slice hov
  obtain ⟨g, cap, hA⟩ : ∃ g cap, Value.slice A ks.length c = .slice (some ⟨g, 0, none⟩) ks.length cap := by
    rcases h2.2 with ⟨_, h'⟩ | ⟨g', cap', cur, h', _⟩
    · omega
    · exact ⟨g', cap', h'⟩
  cases hA
  have x0 : w.cell? ⟨p, 0, none⟩ = some (.int .i64 most) := by rw [block_cell h1]; rfl
  have x1 : w.cell? ⟨p, 1, none⟩ = some (.slice (some ⟨g, 0, none⟩) ks.length c) := by rw [block_cell h1]; rfl
  have y0 : w.cell? ⟨g, i * 3, none⟩ = some (.slice Av k.b.length cv) := by rw [h2.cellAt _ (by omega)]; exact (pksC_get vs ks i _ k hv hk).1
  have y1 : w.cell? ⟨g, i * 3 + 1, none⟩ = some (.int .i64 k.site) := by rw [h2.cellAt _ (by omega)]; exact (pksC_get vs ks i _ k hv hk).2.1
  have y2 : w.cell? ⟨g, i * 3 + 2, none⟩ = some (.int .i64 k.waits) := by rw [h2.cellAt _ (by omega)]; exact (pksC_get vs ks i _ k hv hk).2.2
  have hK := Lib.hid hk
  have hOV := Lib.hid hov
  have hBL := Lib.hid hbl
  clear h1 h2 h3 h4 hv hk hov hbl
  obtain ⟨kbl, hkbl⟩ : ∃ n, n = k.b.length := ⟨_, rfl⟩
  obtain ⟨ksite, hks⟩ : ∃ n, n = k.site := ⟨_, rfl⟩
  obtain ⟨kwaits, hkw⟩ : ∃ n, n = k.waits := ⟨_, rfl⟩
  rw [← hkbl] at y0 hOV
  rw [← hks] at y1
  rw [← hkw] at y2
  have hKE := Lib.hid (And.intro hkbl (And.intro hks hkw))
  clear hkbl hks hkw
  have hB0 := Lib.hid (below_alloc (Below.refl _ w) (.cells #[.slice Av kbl cv, .int .i64 ksite, .int .i64 kwaits] 97))
  have ht0 := heap_alloc_new w (.cells #[.slice Av kbl cv, .int .i64 ksite, .int .i64 kwaits] 97)
  have hT0 := Lib.hid ht0
  have x0a := cell_below hB0.out x0
  have x1a := cell_below hB0.out x1
  have hB1 := Lib.hid (below_alloc (Below.refl _ w) (.cells #[.slice Av kbl cv, .int .i64 ksite, .int .i64 n] 97))
  have hT1 := Lib.hid (heap_alloc_new w (.cells #[.slice Av kbl cv, .int .i64 ksite, .int .i64 n] 97))
  go_enter Tryz.func51, Tryz.ntmps51
  go_wp2_with fail
  generalize w.alloc (.cells #[.slice Av kbl cv, .int .i64 ksite, .int .i64 n] 97) = W0 at *
  refine (take_any p most ks i k _ (hN.out.later hB1.out) hK.out (by omega)).mono ?_
  rintro e w1 ⟨A1, c1, rfl, _, hR1_, hK1_⟩
  have hR1 := Lib.hid hR1_
  have ht1 := (hK1_.block _ (lt_of_block hT1.out) (by have := hpw.out; omega)).trans hT1.out
  have z0 : w1.cell? ⟨w.heap.size, 0, none⟩ = some (.slice Av kbl cv) := by rw [block_cell ht1]; rfl
  have z1 : w1.cell? ⟨w.heap.size, 1, none⟩ = some (.int .i64 ksite) := by rw [block_cell ht1]; rfl
  have z2 : w1.cell? ⟨w.heap.size, 2, none⟩ = some (.int .i64 n) := by rw [block_cell ht1]; rfl
  have hK1 := Lib.hid ((Kept.of_below (· = p) hB1.out).trans hK1_ (fun _ _ h => h))
  have hOV1 := Lib.hid (own_move (w1 := w1) (hOV.out.below hB1.out) fun q hq => hK1_.block q (by obtain ⟨cur, e⟩ := own_type (hOV.out.below hB1.out) hq; exact lt_of_block e) (by
    rintro rfl
    obtain ⟨cur, e⟩ := own_type (hOV.out.below hB1.out) hq
    obtain ⟨_, _, _, e2, _⟩ := hN.out.later hB1.out
    rw [e2] at e
    simp at e))
  clear hR1_ hK1_ ht1
  go_wp2_with fail
  refine (put_any p most (ks.eraseIdx i) i { k with waits := n } Av cv kbl _ hR1.out (by rw [List.length_eraseIdx_of_lt hi]; omega) (by rw [List.length_eraseIdx_of_lt hi]; omega) hKE.out.1 hBL.out hOV1.out ksite n hKE.out.2.1 rfl).mono ?_
  rintro e w2 ⟨rfl, hR_, hK_⟩
  rw [insert_erase _ _ _ hi] at hR_
  have hR2 := Lib.hid hR_
  have hK2 := Lib.hid (hK1.out.trans hK_ (fun _ _ h => h))
  clear hR_ hK_
  go_wp2_with fail
  refine bodyPost_ret (v := .int .i64 0) ?_ rfl ⟨rfl, hR2.out, hK2.out⟩
  simp [results, Tryz.results51, go_sem]
end Go.Proofs.YteeiacfddjhhkaaGreatDoor
namespace Go.Proofs.YteeiacfddjhhkaaGreatDoor
open Go.RowKit
set_option maxRecDepth 100000
variable {cz : Cuts}
set_option maxHeartbeats 2000000 in
theorem rspoil_bad (p : Nat) (most : Int) (ks : List PK) (i : Nat) (k : PK) (n : Int) (w : World) (h : RefAt cz w p most ks) (hk : ks[i]? = some k) (hl : ks.length ≤ 99999) (hn : n < 0 ∨ 8 * (k.b.length : Int) ≤ n) :
    Calls Tryz.prog 51 #[.pointer (some ⟨p, 0, none⟩), .int .i64 4, .int .i64 i, .int .i64 n] w fun e w' => e = .returned (.int .i64 2) ∧ RefAt cz w' p most ks ∧ Kept (· = p) w w' := by
  have hi : i < ks.length := (List.getElem?_eq_some_iff.1 hk).1
  have hN := Lib.hid h
  have hpw : Hid (p < w.heap.size) := Lib.hid h.lt
  obtain ⟨A, c, vs, h1, h2, h3, h4⟩ := h
  obtain ⟨v, hv⟩ : ∃ v, vs[i]? = some v := ⟨_, List.getElem?_eq_getElem (by omega)⟩
  obtain ⟨hov, hbl⟩ := h4 i v k hv hk
  obtain ⟨Av, cv, rfl⟩ := own_slice hov
  obtain ⟨g, cap, hA⟩ : ∃ g cap, Value.slice A ks.length c = .slice (some ⟨g, 0, none⟩) ks.length cap := by
    rcases h2.2 with ⟨_, h'⟩ | ⟨g', cap', cur, h', _⟩
    · omega
    · exact ⟨g', cap', h'⟩
  cases hA
  have x0 : w.cell? ⟨p, 0, none⟩ = some (.int .i64 most) := by rw [block_cell h1]; rfl
  have x1 : w.cell? ⟨p, 1, none⟩ = some (.slice (some ⟨g, 0, none⟩) ks.length c) := by rw [block_cell h1]; rfl
  have y0 : w.cell? ⟨g, i * 3, none⟩ = some (.slice Av k.b.length cv) := by rw [h2.cellAt _ (by omega)]; exact (pksC_get vs ks i _ k hv hk).1
  have y1 : w.cell? ⟨g, i * 3 + 1, none⟩ = some (.int .i64 k.site) := by rw [h2.cellAt _ (by omega)]; exact (pksC_get vs ks i _ k hv hk).2.1
  have y2 : w.cell? ⟨g, i * 3 + 2, none⟩ = some (.int .i64 k.waits) := by rw [h2.cellAt _ (by omega)]; exact (pksC_get vs ks i _ k hv hk).2.2
  have hK := Lib.hid hk
  have hOV := Lib.hid hov
  have hBL := Lib.hid hbl
  clear h1 h2 h3 h4 hv hk hov hbl
  obtain ⟨kbl, hkbl⟩ : ∃ n, n = k.b.length := ⟨_, rfl⟩
  obtain ⟨ksite, hks⟩ : ∃ n, n = k.site := ⟨_, rfl⟩
  obtain ⟨kwaits, hkw⟩ : ∃ n, n = k.waits := ⟨_, rfl⟩
  rw [← hkbl] at y0 hOV
  rw [← hks] at y1
  rw [← hkw] at y2
  have hKE := Lib.hid (And.intro hkbl (And.intro hks hkw))
  clear hkbl hks hkw
  have hB0 := Lib.hid (below_alloc (Below.refl _ w) (.cells #[.slice Av kbl cv, .int .i64 ksite, .int .i64 kwaits] 97))
  have ht0 := heap_alloc_new w (.cells #[.slice Av kbl cv, .int .i64 ksite, .int .i64 kwaits] 97)
  have hT0 := Lib.hid ht0
  have x0a := cell_below hB0.out x0
  have x1a := cell_below hB0.out x1
  have hwm : IntKind.i64.wrap (8 * (kbl : Int)) = 8 * kbl := by rw [IntKind.wrap_i64, hKE.out.1]; have := hBL.out; omega
  by_cases hneg : n < 0
  · clear hn
    go_enter Tryz.func51, Tryz.ntmps51
    go_wp2_with fail
    refine bodyPost_ret (v := .int .i64 2) ?_ rfl ⟨rfl, hN.out.later hB0.out, Kept.of_below _ hB0.out⟩
    simp [results, Tryz.results51, go_sem]
  · have hge : 8 * (kbl : Int) ≤ n := by rw [hKE.out.1]; omega
    have hgd : decide (8 * (kbl : Int) ≤ n) = true := decide_eq_true hge
    clear hn
    go_enter Tryz.func51, Tryz.ntmps51
    go_wp2_with fail
    refine bodyPost_ret (v := .int .i64 2) ?_ rfl ⟨rfl, hN.out.later hB0.out, Kept.of_below _ hB0.out⟩
    simp [results, Tryz.results51, go_sem]
set_option maxHeartbeats 4000000 in
theorem rspoil_ok (p : Nat) (most : Int) (ks : List PK) (i : Nat) (k : PK) (n : Nat) (w : World) (h : RefAt cz w p most ks) (hk : ks[i]? = some k) (hl : ks.length ≤ 99999) (hn : n < 8 * k.b.length) :
    Calls Tryz.prog 51 #[.pointer (some ⟨p, 0, none⟩), .int .i64 4, .int .i64 i, .int .i64 n] w fun e w' => e = .returned (.int .i64 0) ∧ RefAt cz w' p most (ks.set i { k with b := turnB k.b n }) ∧ Kept (· = p) w w' := by
  have hi : i < ks.length := (List.getElem?_eq_some_iff.1 hk).1
  have hN := Lib.hid h
  have hpw : Hid (p < w.heap.size) := Lib.hid h.lt
  obtain ⟨A, c, vs, h1, h2, h3, h4⟩ := h
  obtain ⟨v, hv⟩ : ∃ v, vs[i]? = some v := ⟨_, List.getElem?_eq_getElem (by omega)⟩
  obtain ⟨hov, hbl⟩ := h4 i v k hv hk
  obtain ⟨Av, cv, rfl⟩ := own_slice hov
  obtain ⟨g, cap, hA⟩ : ∃ g cap, Value.slice A ks.length c = .slice (some ⟨g, 0, none⟩) ks.length cap := by
    rcases h2.2 with ⟨_, h'⟩ | ⟨g', cap', cur, h', _⟩
    · omega
    · exact ⟨g', cap', h'⟩
  cases hA
  have x0 : w.cell? ⟨p, 0, none⟩ = some (.int .i64 most) := by rw [block_cell h1]; rfl
  have x1 : w.cell? ⟨p, 1, none⟩ = some (.slice (some ⟨g, 0, none⟩) ks.length c) := by rw [block_cell h1]; rfl
  have y0 : w.cell? ⟨g, i * 3, none⟩ = some (.slice Av k.b.length cv) := by rw [h2.cellAt _ (by omega)]; exact (pksC_get vs ks i _ k hv hk).1
  have y1 : w.cell? ⟨g, i * 3 + 1, none⟩ = some (.int .i64 k.site) := by rw [h2.cellAt _ (by omega)]; exact (pksC_get vs ks i _ k hv hk).2.1
  have y2 : w.cell? ⟨g, i * 3 + 2, none⟩ = some (.int .i64 k.waits) := by rw [h2.cellAt _ (by omega)]; exact (pksC_get vs ks i _ k hv hk).2.2
  have hK := Lib.hid hk
  have hOV := Lib.hid hov
  have hBL := Lib.hid hbl
  clear h1 h2 h3 h4 hv hk hov hbl
  obtain ⟨kbl, hkbl⟩ : ∃ n, n = k.b.length := ⟨_, rfl⟩
  obtain ⟨ksite, hks⟩ : ∃ n, n = k.site := ⟨_, rfl⟩
  obtain ⟨kwaits, hkw⟩ : ∃ n, n = k.waits := ⟨_, rfl⟩
  rw [← hkbl] at y0 hOV
  rw [← hks] at y1
  rw [← hkw] at y2
  have hKE := Lib.hid (And.intro hkbl (And.intro hks hkw))
  clear hkbl hks hkw
  have hB0 := Lib.hid (below_alloc (Below.refl _ w) (.cells #[.slice Av kbl cv, .int .i64 ksite, .int .i64 kwaits] 97))
  have ht0 := heap_alloc_new w (.cells #[.slice Av kbl cv, .int .i64 ksite, .int .i64 kwaits] 97)
  have hT0 := Lib.hid ht0
  have x0a := cell_below hB0.out x0
  have x1a := cell_below hB0.out x1
  have hwm : IntKind.i64.wrap (8 * (kbl : Int)) = 8 * kbl := by rw [IntKind.wrap_i64, hKE.out.1]; have := hBL.out; omega
  have hnn : Hid (n / 8 < kbl) := Lib.hid (by rw [hKE.out.1]; omega)
  have d2 : decide ((8 : Int) * kbl ≤ n) = false := by rw [hKE.out.1]; simp; omega
  have hbE := Lib.hid (below_alloc hB0.out (.cells #[] 5))
  have hL : Hid (OB ((w.alloc (.cells #[.slice Av kbl cv, .int .i64 ksite, .int .i64 kwaits] 97)).alloc (.cells #[] 5)) (w.heap.size + 1) (.slice (some ⟨w.heap.size + 1, 0, none⟩) 0 0) []) := Lib.hid (OB.lit (World.size_alloc _ _).symm rfl rfl (by rw [World.size_alloc]; exact Nat.le_refl _) (by decide))
  have hSz : Hid (w.heap.size + 1 ≤ ((w.alloc (.cells #[.slice Av kbl cv, .int .i64 ksite, .int .i64 kwaits] 97)).alloc (.cells #[] 5)).heap.size) := Lib.hid (by rw [World.size_alloc, World.size_alloc]; omega)
  have hBE2 := Lib.hid (below_alloc (Below.refl _ (w.alloc (.cells #[.slice Av kbl cv, .int .i64 ksite, .int .i64 kwaits] 97))) (.cells #[] 5))
  have hRb : Hid (RB ((w.alloc (.cells #[.slice Av kbl cv, .int .i64 ksite, .int .i64 kwaits] 97)).alloc (.cells #[] 5)) (.slice Av kbl cv) k.b) := Lib.hid (RB.of_own (hOV.out.below hbE.out))
  clear hn ht0
  go_enter Tryz.func51, Tryz.ntmps51
  go_wp2_with (at_builtin; refine list_of_wp rfl ?_; refine wp_append_B (.tmp 104) (.tmp 106) rfl (w.heap.size + 1) (.slice (some ⟨w.heap.size + 1, 0, none⟩) 0 0) (.slice Av kbl cv) [] k.b k.b rfl rfl hL.out rfl hRb.out (by have := hBL.out; simp; omega) hSz.out ?_)
  intro v3 w3 hO3_ hg3_ hv3_
  obtain ⟨A1, c1, rfl⟩ := own_slice hO3_
  obtain ⟨b1, rfl⟩ : ∃ b1, A1 = some ⟨b1, 0, none⟩ := by
    rcases hO3_.2 with ⟨_, h'⟩ | ⟨g', cap', cur, h', _⟩
    · have := hnn.out; rw [hKE.out.1] at this; omega
    · cases h'
      exact ⟨_, rfl⟩
  have hO3 := Lib.hid hO3_
  have hB3 := Lib.hid (hbE.out.grown hg3_ (Nat.le_trans (Nat.le_succ _) hSz.out) (fun g e => by have := own_ge hL.out g e; omega))
  have hA3 := hBE2.out.grown hg3_ hBE2.out.size (fun g e => by have := own_ge hL.out g e; rw [World.size_alloc]; exact this)
  have ht3 := block_below hA3 hT0.out
  have hge : w.heap.size + 1 ≤ b1 := own_ge hO3.out b1 rfl
  have hT3 := Lib.hid ht3
  rw [← hKE.out.1]
  have n1 : ¬ w.heap.size = b1 := by omega
  have n2 : ¬ b1 = w.heap.size := by omega
  have z0 : w3.cell? ⟨w.heap.size, 0, none⟩ = some (.slice Av kbl cv) := by rw [block_cell ht3]; rfl
  have g0 : w3.frozen? ⟨w.heap.size, 0, none⟩ = false := block_free ht3 0
  clear hO3_ hg3_ hv3_ hA3 ht3 hRb hBE2 hL hbE
  have hlt : n / 8 < kbl := hnn.out
  obtain ⟨b0, hb0_⟩ : ∃ b0, k.b[n / 8]? = some b0 := ⟨_, List.getElem?_eq_getElem (by rw [← hKE.out.1]; exact hlt)⟩
  have hb0 := Lib.hid hb0_
  have c0 : w3.cell? ⟨b1, n / 8, none⟩ = some (.int .u8 (b0.toNat : Int)) := by
    have := hO3.out.cellAt (n / 8) (by rw [← hKE.out.1]; omega)
    rw [this]
    simp [u8s, hb0_]
  have f0 : w3.frozen? ⟨b1, n / 8, none⟩ = false := hO3.out.frozenAt _
  clear hb0_
  have hq : Int.tdiv (n : Int) 8 = ((n / 8 : Nat) : Int) := rfl
  have hr : Int.tmod (n : Int) 8 = ((n % 8 : Nat) : Int) := rfl
  have hq2 : (n : Int) / 8 = ((n / 8 : Nat) : Int) := rfl
  have hr2 : (n : Int) % 8 = ((n % 8 : Nat) : Int) := rfl
  obtain ⟨t, ht⟩ : ∃ t, t = n % 8 := ⟨_, rfl⟩
  obtain ⟨q, hqq⟩ : ∃ q, q = n / 8 := ⟨_, rfl⟩
  have hT := Lib.hid ht
  have hQ := Lib.hid hqq
  rw [← hqq] at hq hq2 c0 f0 hlt
  rw [← ht] at hr hr2
  have ht8 : t < 8 := by omega
  clear ht hqq
  have hx8 : ∃ z : Nat, z = 2 ^ t ∧ z < 256 := ⟨_, rfl, by have := Nat.pow_lt_pow_right (a := 2) (by decide) ht8; simpa using this⟩
  obtain ⟨z, hz, hz2⟩ := hx8
  have hwq : IntKind.i64.wrap (q : Int) = q := by rw [IntKind.wrap_i64]; have := hBL.out; have := hKE.out.1; omega
  have hwt : IntKind.u64.wrap (t : Int) = t := by rw [IntKind.wrap_u64]; omega
  have hz3 : (2 : Int) ^ t = (z : Int) := by rw [hz]; norm_cast
  have hwz : IntKind.u8.wrap (z : Int) = z := by rw [IntKind.wrap_u8]; omega
  have hsh : Op.shift .shl .u8 1 .u64 (t : Int) = pure (.int .u8 (z : Int)) := by rw [shift_shl _ _ _ _ (by omega) (by simp [IntKind.bits]; omega), Int.toNat_natCast, Int.one_mul, hz3, hwz]
  have hZ := Lib.hid hz
  clear hz hz3 hwz
  have hbx : bits .xor .u8 (b0.toNat : Int) (z : Int) = (((b0.toNat ^^^ z : Nat)) : Int) := u8_xor_nat _ _ b0.toNat_lt hz2
  go_wp2_with fail
  have hzz : (2 : Int) ^ t % 256 = (z : Int) := by
    have h1 : (2 : Int) ^ t = (z : Int) := by rw [hZ.out]; norm_cast
    rw [h1]; omega
  rw [hzz, hbx]
  have htn : ((b0 ^^^ UInt8.ofNat (2 ^ (n % 8))).toNat : Int) = ((b0.toNat ^^^ z : Nat) : Int) := by
    rw [UInt8.toNat_xor, UInt8.toNat_ofNat', ← hT.out, ← hZ.out, Nat.mod_eq_of_lt (by simpa using hz2)]
  have ht : u8s (turnB k.b n) = (u8s k.b).set q (.int .u8 ((b0.toNat ^^^ z : Nat) : Int)) := by
    unfold turnB
    rw [hb0.out, Option.getD_some, u8s_set, htn, ← hQ.out]
  have ht4 : (w3.setCell ⟨w.heap.size, 0, none⟩ (.slice (some ⟨b1, 0, none⟩) kbl c1)).heap[w.heap.size]? = some (.cells #[.slice (some ⟨b1, 0, none⟩) kbl c1, .int .i64 ksite, .int .i64 kwaits] 97 (0, 0)) := block_setCell hT3.out 0 _
  have hB4 := hB3.out.setCell (p := ⟨w.heap.size, 0, none⟩) (Nat.le_refl _) (.slice (some ⟨b1, 0, none⟩) kbl c1)
  have hO4 : OB (w3.setCell ⟨w.heap.size, 0, none⟩ (.slice (some ⟨b1, 0, none⟩) kbl c1)) (w.heap.size + 1) (.slice (some ⟨b1, 0, none⟩) k.b.length c1) k.b := own_move hO3.out fun q' hq' => Below.heap_setCell _ _ _ _ (by have := own_ge hO3.out q' hq'; show q' ≠ w.heap.size; omega)
  obtain ⟨ho, _⟩ := World.ownsRow.stored hO4 q (.int .u8 ((b0.toNat ^^^ z : Nat) : Int))
  have hOB : OB ((w3.setCell ⟨w.heap.size, 0, none⟩ (.slice (some ⟨b1, 0, none⟩) kbl c1)).setCell ⟨b1, q, none⟩ (.int .u8 ((b0.toNat ^^^ z : Nat) : Int))) 0 (.slice (some ⟨b1, 0, none⟩) kbl c1) (turnB k.b n) := by
    refine OB.lower (base := w.heap.size + 1) ?_ (Nat.zero_le _)
    unfold OB
    rw [ht, turnB_len, hKE.out.1]
    rw [hKE.out.1] at ho
    exact ho
  have hB5 : Below w.heap.size w ((w3.setCell ⟨w.heap.size, 0, none⟩ (.slice (some ⟨b1, 0, none⟩) kbl c1)).setCell ⟨b1, q, none⟩ (.int .u8 ((b0.toNat ^^^ z : Nat) : Int))) := hB4.setCell (p := ⟨b1, q, none⟩) (by show w.heap.size ≤ b1; omega) _
  have hT5 : ((w3.setCell ⟨w.heap.size, 0, none⟩ (.slice (some ⟨b1, 0, none⟩) kbl c1)).setCell ⟨b1, q, none⟩ (.int .u8 ((b0.toNat ^^^ z : Nat) : Int))).heap[w.heap.size]? = some (.cells #[.slice (some ⟨b1, 0, none⟩) kbl c1, .int .i64 ksite, .int .i64 kwaits] 97 (0, 0)) := (Below.heap_setCell _ ⟨b1, q, none⟩ _ _ n1).trans ht4
  clear z0 ho hO4 hB4 ht4 g0 c0 f0
  generalize (w3.setCell ⟨w.heap.size, 0, none⟩ (.slice (some ⟨b1, 0, none⟩) kbl c1)).setCell ⟨b1, q, none⟩ (.int .u8 ((b0.toNat ^^^ z : Nat) : Int)) = W5 at *
  have hOBH := Lib.hid hOB
  have hB5H := Lib.hid hB5
  have hT5H := Lib.hid hT5
  have htl : Hid (kbl = (turnB k.b n).length) := Lib.hid (by rw [turnB_len]; exact hKE.out.1)
  clear hOB hB5 hT5 ht htn hzz hbx hsh hq hr hq2 hr2 hwq hwt hz2 hlt
  refine (take_any p most ks i k _ (hN.out.later hB5H.out) hK.out (by omega)).mono ?_
  rintro e w1 ⟨A1q, c1q, rfl, _, hR1_, hK1_⟩
  have hR1 := Lib.hid hR1_
  have ht1 := (hK1_.block _ (lt_of_block hT5H.out) (by have := hpw.out; omega)).trans hT5H.out
  have z0 : w1.cell? ⟨w.heap.size, 0, none⟩ = some (.slice (some ⟨b1, 0, none⟩) kbl c1) := by rw [block_cell ht1]; rfl
  have z1 : w1.cell? ⟨w.heap.size, 1, none⟩ = some (.int .i64 ksite) := by rw [block_cell ht1]; rfl
  have z2 : w1.cell? ⟨w.heap.size, 2, none⟩ = some (.int .i64 kwaits) := by rw [block_cell ht1]; rfl
  have hK1 := Lib.hid ((Kept.of_below (· = p) hB5H.out).trans hK1_ (fun _ _ h => h))
  have hOV1 := Lib.hid (own_move (w1 := w1) hOBH.out fun q hq => hK1_.block q (by obtain ⟨cur, e⟩ := own_type hOBH.out hq; exact lt_of_block e) (by
    rintro rfl
    obtain ⟨cur, e⟩ := own_type hOBH.out hq
    obtain ⟨_, _, _, e2, _⟩ := hN.out.later hB5H.out
    rw [e2] at e
    simp at e))
  clear hR1_ hK1_ ht1
  go_wp2_with fail
  refine (put_any p most (ks.eraseIdx i) i { k with b := turnB k.b n } (some ⟨b1, 0, none⟩) c1 kbl _ hR1.out (by rw [List.length_eraseIdx_of_lt hi]; omega) (by rw [List.length_eraseIdx_of_lt hi]; omega) htl.out (by show (turnB k.b n).length ≤ 100000; rw [turnB_len]; exact hBL.out) hOV1.out ksite kwaits hKE.out.2.1 hKE.out.2.2).mono ?_
  rintro e w2 ⟨rfl, hR_, hK_⟩
  rw [insert_erase _ _ _ hi] at hR_
  have hR2 := Lib.hid hR_
  have hK2 := Lib.hid (hK1.out.trans hK_ (fun _ _ h => h))
  clear hR_ hK_
  go_wp2_with fail
  refine bodyPost_ret (v := .int .i64 0) ?_ rfl ⟨rfl, hR2.out, hK2.out⟩
  simp [results, Tryz.results51, go_sem]
end Go.Proofs.YteeiacfddjhhkaaGreatDoor
