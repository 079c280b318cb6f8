/- The document's net: Deliver. -/
import Derived.Test.YteeiacfddjhhkaaGreatDoorRNet4
import Derived.Test.YteeiacfddjhhkaaGreatDoorRDec
namespace Go.Proofs.YteeiacfddjhhkaaGreatDoor
open Go.RowKit
set_option maxRecDepth 100000
variable {cz : Cuts}
set_option maxHeartbeats 2000000 in
theorem rdel_none (p : Nat) (most : Int) (ks : List PK) (i : Int) (w : World) (h : RefAt cz w p most ks) (hi : i < 0 ∨ (ks.length : Int) ≤ i) :
    Calls Tryz.prog 50 #[.pointer (some ⟨p, 0, none⟩), .int .i64 i] w fun e w' => e = .returned (.tuple #[zeroV, .int .i64 3]) ∧ RefAt cz w' p most ks ∧ Kept (· = p) w w' := by
  have hN := Lib.hid h
  have hpw : Hid (p < w.heap.size) := Lib.hid h.lt
  have h0 := Lib.hid (heap_alloc_new w (.cells #[.int .i64 0, .int .i64 0, .int .i64 0, .int .i64 0, .int .i64 0, .int .i64 0, .int .i64 0, .int .i64 0, .int .i64 0, .slice none 0 0, .slice none 0 0] 31))
  have hB0 := Lib.hid (below_alloc (Below.refl _ w) (.cells #[.int .i64 0, .int .i64 0, .int .i64 0, .int .i64 0, .int .i64 0, .int .i64 0, .int .i64 0, .int .i64 0, .int .i64 0, .slice none 0 0, .slice none 0 0] 31))
  have hN0 := h.later hB0.out
  obtain ⟨A, c, vs, h1, _⟩ := hN0
  have x1 : (w.alloc (.cells #[.int .i64 0, .int .i64 0, .int .i64 0, .int .i64 0, .int .i64 0, .int .i64 0, .int .i64 0, .int .i64 0, .int .i64 0, .slice none 0 0, .slice none 0 0] 31)).cell? ⟨p, 1, none⟩ = some (.slice A ks.length c) := by rw [block_cell h1]; rfl
  clear h1 h
  by_cases hneg : i < 0
  · clear hi
    go_enter Tryz.func50, Tryz.ntmps50
    go_wp2_with fail
    refine bodyPost_ret (v := .tuple #[zeroV, .int .i64 3]) ?_ rfl ⟨rfl, hN.out.later hB0.out, Kept.of_below _ hB0.out⟩
    simp [results, Tryz.results50, go_sem, zeroV, *]
  · have hge : (ks.length : Int) ≤ i := by omega
    clear hi
    go_enter Tryz.func50, Tryz.ntmps50
    go_wp2_with fail
    refine bodyPost_ret (v := .tuple #[zeroV, .int .i64 3]) ?_ rfl ⟨rfl, hN.out.later hB0.out, Kept.of_below _ hB0.out⟩
    simp [results, Tryz.results50, go_sem, zeroV, *]
set_option maxHeartbeats 2000000 in
theorem rdel_busy (p : Nat) (most : Int) (ks : List PK) (i : Nat) (k : PK) (w : World) (h : RefAt cz w p most ks) (hk : ks[i]? = some k) (hs : 1 ≤ k.site ∧ k.site ≤ 3) (hw : 0 < k.waits ∨ cutAt cz k.site = true) :
    Calls Tryz.prog 50 #[.pointer (some ⟨p, 0, none⟩), .int .i64 i] w fun e w' => e = .returned (.tuple #[zeroV, .int .i64 20]) ∧ RefAt cz w' p most ks ∧ Kept (· = p) w w' := by
  have hN := Lib.hid h
  have hpw : Hid (p < w.heap.size) := Lib.hid h.lt
  have h0 := Lib.hid (heap_alloc_new w (.cells #[.int .i64 0, .int .i64 0, .int .i64 0, .int .i64 0, .int .i64 0, .int .i64 0, .int .i64 0, .int .i64 0, .int .i64 0, .slice none 0 0, .slice none 0 0] 31))
  have hB0 := Lib.hid (below_alloc (Below.refl _ w) (.cells #[.int .i64 0, .int .i64 0, .int .i64 0, .int .i64 0, .int .i64 0, .int .i64 0, .int .i64 0, .int .i64 0, .int .i64 0, .slice none 0 0, .slice none 0 0] 31))
  have hN0 := h.later hB0.out
  have hi : i < ks.length := (List.getElem?_eq_some_iff.1 hk).1
  obtain ⟨sn, hsn, hsn4, yc⟩ := hN0.cuts k.site hs
  obtain ⟨A, c, vs, h1, h2, h3, h4⟩ := hN0
  obtain ⟨v, hv⟩ : ∃ v, vs[i]? = some v := ⟨_, List.getElem?_eq_getElem (by omega)⟩
  obtain ⟨g, cap, hA⟩ : ∃ g cap, Value.slice A ks.length c = .slice (some ⟨g, 0, none⟩) ks.length cap := by
    rcases h2.2 with ⟨_, h'⟩ | ⟨g', cap', cur, h', _⟩
    · omega
    · exact ⟨g', cap', h'⟩
  cases hA
  have x1 : (w.alloc (.cells #[.int .i64 0, .int .i64 0, .int .i64 0, .int .i64 0, .int .i64 0, .int .i64 0, .int .i64 0, .int .i64 0, .int .i64 0, .slice none 0 0, .slice none 0 0] 31)).cell? ⟨p, 1, none⟩ = some (.slice (some ⟨g, 0, none⟩) ks.length c) := by rw [block_cell h1]; rfl
  have y1 : (w.alloc (.cells #[.int .i64 0, .int .i64 0, .int .i64 0, .int .i64 0, .int .i64 0, .int .i64 0, .int .i64 0, .int .i64 0, .int .i64 0, .slice none 0 0, .slice none 0 0] 31)).cell? ⟨g, i * 3 + 1, none⟩ = some (.int .i64 k.site) := by rw [h2.cellAt _ (by omega)]; exact (pksC_get vs ks i _ k hv hk).2.1
  have y2 : (w.alloc (.cells #[.int .i64 0, .int .i64 0, .int .i64 0, .int .i64 0, .int .i64 0, .int .i64 0, .int .i64 0, .int .i64 0, .int .i64 0, .slice none 0 0, .slice none 0 0] 31)).cell? ⟨g, i * 3 + 2, none⟩ = some (.int .i64 k.waits) := by rw [h2.cellAt _ (by omega)]; exact (pksC_get vs ks i _ k hv hk).2.2
  rw [hsn] at yc y1
  clear h1 h2 h3 h4 h
  have hK := Lib.hid hk
  rw [hsn] at hw
  clear hk hv hsn
  by_cases hpos : 0 < k.waits
  · have hd1 : decide (k.waits > 0) = true := decide_eq_true hpos
    clear hw
    generalize k.waits = kw at *
    go_enter Tryz.func50, Tryz.ntmps50
    go_wp2_with fail
    go_quiet (fail)
    go_wp2_with fail
    have hBq : Hid (Below w.heap.size w ((w.alloc (.cells #[.int .i64 0, .int .i64 0, .int .i64 0, .int .i64 0, .int .i64 0, .int .i64 0, .int .i64 0, .int .i64 0, .int .i64 0, .slice none 0 0, .slice none 0 0] 31)).drewN nq)) := Lib.hid (below_drewN hB0.out nq)
    have hq0 : Hid (((w.alloc (.cells #[.int .i64 0, .int .i64 0, .int .i64 0, .int .i64 0, .int .i64 0, .int .i64 0, .int .i64 0, .int .i64 0, .int .i64 0, .slice none 0 0, .slice none 0 0] 31)).drewN nq).heap[w.heap.size]? = some (.cells #[.int .i64 0, .int .i64 0, .int .i64 0, .int .i64 0, .int .i64 0, .int .i64 0, .int .i64 0, .int .i64 0, .int .i64 0, .slice none 0 0, .slice none 0 0] 31 (0, 0))) := Lib.hid h0.out
    generalize (w.alloc (.cells #[.int .i64 0, .int .i64 0, .int .i64 0, .int .i64 0, .int .i64 0, .int .i64 0, .int .i64 0, .int .i64 0, .int .i64 0, .slice none 0 0, .slice none 0 0] 31)).drewN nq = W1 at *
    have hbz := hq0.out
    obtain ⟨x0, x1, x2, x3, x4, x5, x6, x7, x8, x9, x10⟩ := msg_cells hbz
    obtain ⟨f0, f1, f2, f3, f4, f5, f6, f7, f8, f9, f10⟩ := msg_free hbz
    obtain ⟨WZ10, hch_, hzA10_, hKz⟩ := msg_stored hbz (.int .i64 0) (.int .i64 0) (.int .i64 0) (.int .i64 0) (.int .i64 0) (.int .i64 0) (.int .i64 0) (.int .i64 0) (.int .i64 0) (.slice none 0 0) (.slice none 0 0)
    have hCH := Lib.hid hch_
    have hzA10H := Lib.hid hzA10_
    clear hch_ hzA10_
    have hKZ := Lib.hid hKz
    have hE9 := Lib.hid (kept_below (hBq.out) hKz (by rintro _ rfl; exact Nat.le_refl _))
    have hbz2 := Lib.hid hbz
    clear hKz hbz
    go_wp2_with fail
    have hbz := hbz2.out
    clear x0 f0 x1 f1 x2 f2 x3 f3 x4 f4 x5 f5 x6 f6 x7 f7 x8 f8 x9 f9 x10 f10
    rw [hCH.out]
    have hzA10 := hzA10H.out
    obtain ⟨c0, c1, c2, c3, c4, c5, c6, c7, c8, c9, c10⟩ := msg_cells hzA10
    clear hbz hzA10
    go_wp2_with fail
    refine bodyPost_ret (v := .tuple #[zeroV, .int .i64 20]) ?_ rfl ⟨rfl, hN.out.later hE9.out, Kept.of_below _ hE9.out⟩
    simp [results, Tryz.results50, go_sem, zeroV, *]

  · have hd1 : decide (k.waits > 0) = false := decide_eq_false (by omega)
    have hct : cutAt cz (sn : Int) = true := hw.resolve_left hpos
    rw [hct] at yc
    clear hw hct
    generalize k.waits = kw at *
    go_enter Tryz.func50, Tryz.ntmps50
    go_wp2_with fail
    go_quiet (fail)
    go_wp2_with fail
    have hBq : Hid (Below w.heap.size w ((w.alloc (.cells #[.int .i64 0, .int .i64 0, .int .i64 0, .int .i64 0, .int .i64 0, .int .i64 0, .int .i64 0, .int .i64 0, .int .i64 0, .slice none 0 0, .slice none 0 0] 31)).drewN nq)) := Lib.hid (below_drewN hB0.out nq)
    have hq0 : Hid (((w.alloc (.cells #[.int .i64 0, .int .i64 0, .int .i64 0, .int .i64 0, .int .i64 0, .int .i64 0, .int .i64 0, .int .i64 0, .int .i64 0, .slice none 0 0, .slice none 0 0] 31)).drewN nq).heap[w.heap.size]? = some (.cells #[.int .i64 0, .int .i64 0, .int .i64 0, .int .i64 0, .int .i64 0, .int .i64 0, .int .i64 0, .int .i64 0, .int .i64 0, .slice none 0 0, .slice none 0 0] 31 (0, 0))) := Lib.hid h0.out
    generalize (w.alloc (.cells #[.int .i64 0, .int .i64 0, .int .i64 0, .int .i64 0, .int .i64 0, .int .i64 0, .int .i64 0, .int .i64 0, .int .i64 0, .slice none 0 0, .slice none 0 0] 31)).drewN nq = W1 at *
    have hbz := hq0.out
    obtain ⟨x0, x1, x2, x3, x4, x5, x6, x7, x8, x9, x10⟩ := msg_cells hbz
    obtain ⟨f0, f1, f2, f3, f4, f5, f6, f7, f8, f9, f10⟩ := msg_free hbz
    obtain ⟨WZ10, hch_, hzA10_, hKz⟩ := msg_stored hbz (.int .i64 0) (.int .i64 0) (.int .i64 0) (.int .i64 0) (.int .i64 0) (.int .i64 0) (.int .i64 0) (.int .i64 0) (.int .i64 0) (.slice none 0 0) (.slice none 0 0)
    have hCH := Lib.hid hch_
    have hzA10H := Lib.hid hzA10_
    clear hch_ hzA10_
    have hKZ := Lib.hid hKz
    have hE9 := Lib.hid (kept_below (hBq.out) hKz (by rintro _ rfl; exact Nat.le_refl _))
    have hbz2 := Lib.hid hbz
    clear hKz hbz
    go_wp2_with fail
    have hbz := hbz2.out
    clear x0 f0 x1 f1 x2 f2 x3 f3 x4 f4 x5 f5 x6 f6 x7 f7 x8 f8 x9 f9 x10 f10
    rw [hCH.out]
    have hzA10 := hzA10H.out
    obtain ⟨c0, c1, c2, c3, c4, c5, c6, c7, c8, c9, c10⟩ := msg_cells hzA10
    clear hbz hzA10
    go_wp2_with fail
    refine bodyPost_ret (v := .tuple #[zeroV, .int .i64 20]) ?_ rfl ⟨rfl, hN.out.later hE9.out, Kept.of_below _ hE9.out⟩
    simp [results, Tryz.results50, go_sem, zeroV, *]

def RDelRet (G : Prop) (m : PMsg) (w : World) (e : Ending) (w' : World) : Prop :=
  (G ∧ ∃ A c B d, e = .returned (.tuple #[.agg (msgA m A c B d), .int .i64 0]) ∧ MsgR w' m A c B d ∧ FreshM w A B) ∨ (¬ G ∧ e = .returned (.tuple #[zeroV, .int .i64 6]))
set_option maxHeartbeats 4000000 in
theorem rdel_any (G : Prop) (m : PMsg) (p : Nat) (most : Int) (ks : List PK) (i : Nat) (k : PK) (w : World) (h : RefAt cz w p most ks) (hk : ks[i]? = some k) (hs : 1 ≤ k.site ∧ k.site ≤ 3) (hw : k.waits ≤ 0) (hcut : cutAt cz k.site = false) (hl : ks.length ≤ 100000) (hkl : k.b.length ≤ 100000)
    (hG : G → mayM m = true ∧ encM m = k.b ∧ okM m) (hno : ¬ G → ∀ m', mayM m' = true → okM m' → encM m' ≠ k.b) :
    Calls Tryz.prog 50 #[.pointer (some ⟨p, 0, none⟩), .int .i64 i] w fun e w' => RDelRet G m w e w' ∧ RefAt cz w' p most (ks.eraseIdx i) ∧ Kept (· = p) w w' := by
  have hN := Lib.hid h
  have hpw : Hid (p < w.heap.size) := Lib.hid h.lt
  have h0 := Lib.hid (heap_alloc_new w (.cells #[.int .i64 0, .int .i64 0, .int .i64 0, .int .i64 0, .int .i64 0, .int .i64 0, .int .i64 0, .int .i64 0, .int .i64 0, .slice none 0 0, .slice none 0 0] 31))
  have hB0 := Lib.hid (below_alloc (Below.refl _ w) (.cells #[.int .i64 0, .int .i64 0, .int .i64 0, .int .i64 0, .int .i64 0, .int .i64 0, .int .i64 0, .int .i64 0, .int .i64 0, .slice none 0 0, .slice none 0 0] 31))
  have hN0 := h.later hB0.out
  have hi : i < ks.length := (List.getElem?_eq_some_iff.1 hk).1
  obtain ⟨sn, hsn, hsn4, yc⟩ := hN0.cuts k.site hs
  obtain ⟨A, c, vs, h1, h2, h3, h4⟩ := hN0
  obtain ⟨v, hv⟩ : ∃ v, vs[i]? = some v := ⟨_, List.getElem?_eq_getElem (by omega)⟩
  obtain ⟨g, cap, hA⟩ : ∃ g cap, Value.slice A ks.length c = .slice (some ⟨g, 0, none⟩) ks.length cap := by
    rcases h2.2 with ⟨_, h'⟩ | ⟨g', cap', cur, h', _⟩
    · omega
    · exact ⟨g', cap', h'⟩
  cases hA
  have x1 : (w.alloc (.cells #[.int .i64 0, .int .i64 0, .int .i64 0, .int .i64 0, .int .i64 0, .int .i64 0, .int .i64 0, .int .i64 0, .int .i64 0, .slice none 0 0, .slice none 0 0] 31)).cell? ⟨p, 1, none⟩ = some (.slice (some ⟨g, 0, none⟩) ks.length c) := by rw [block_cell h1]; rfl
  have y1 : (w.alloc (.cells #[.int .i64 0, .int .i64 0, .int .i64 0, .int .i64 0, .int .i64 0, .int .i64 0, .int .i64 0, .int .i64 0, .int .i64 0, .slice none 0 0, .slice none 0 0] 31)).cell? ⟨g, i * 3 + 1, none⟩ = some (.int .i64 k.site) := by rw [h2.cellAt _ (by omega)]; exact (pksC_get vs ks i _ k hv hk).2.1
  have y2 : (w.alloc (.cells #[.int .i64 0, .int .i64 0, .int .i64 0, .int .i64 0, .int .i64 0, .int .i64 0, .int .i64 0, .int .i64 0, .int .i64 0, .slice none 0 0, .slice none 0 0] 31)).cell? ⟨g, i * 3 + 2, none⟩ = some (.int .i64 k.waits) := by rw [h2.cellAt _ (by omega)]; exact (pksC_get vs ks i _ k hv hk).2.2
  rw [hsn] at yc y1
  clear h1 h2 h3 h4 h
  have hK := Lib.hid hk
  have hI := Lib.hid hi
  rw [hsn] at hcut
  rw [hcut] at yc
  have hdec := Lib.hid (fun A d W (hO : RB W (.slice A k.b.length d) k.b) => rmsgDec_any G m (.slice A k.b.length d) k.b W hO hkl hG hno)
  clear hk hv hsn hcut hG hno
  have hd1 : decide (k.waits > 0) = false := decide_eq_false (by omega)
  have hW := Lib.hid hw
  clear hw
  have hkwe : Hid (True) := Lib.hid trivial
  generalize hkw : k.waits = kw at *
  have hKW := Lib.hid hkw
  clear hkw
  go_enter Tryz.func50, Tryz.ntmps50
  go_wp2_with fail
  go_quiet (fail)
  go_wp2_with fail
  have hBq : Hid (Below w.heap.size w ((w.alloc (.cells #[.int .i64 0, .int .i64 0, .int .i64 0, .int .i64 0, .int .i64 0, .int .i64 0, .int .i64 0, .int .i64 0, .int .i64 0, .slice none 0 0, .slice none 0 0] 31)).drewN nq)) := Lib.hid (below_drewN hB0.out nq)
  have hq0 : Hid (((w.alloc (.cells #[.int .i64 0, .int .i64 0, .int .i64 0, .int .i64 0, .int .i64 0, .int .i64 0, .int .i64 0, .int .i64 0, .int .i64 0, .slice none 0 0, .slice none 0 0] 31)).drewN nq).heap[w.heap.size]? = some (.cells #[.int .i64 0, .int .i64 0, .int .i64 0, .int .i64 0, .int .i64 0, .int .i64 0, .int .i64 0, .int .i64 0, .int .i64 0, .slice none 0 0, .slice none 0 0] 31 (0, 0))) := Lib.hid h0.out
  generalize (w.alloc (.cells #[.int .i64 0, .int .i64 0, .int .i64 0, .int .i64 0, .int .i64 0, .int .i64 0, .int .i64 0, .int .i64 0, .int .i64 0, .slice none 0 0, .slice none 0 0] 31)).drewN nq = W1 at *
  refine (take_any p most ks i k _ (hN.out.later hBq.out) hK.out hl).mono ?_
  rintro e w1 ⟨A1, c1, rfl, hO1_, hR1_, hK1_⟩
  rw [hKW.out]
  have hO1 := Lib.hid hO1_
  have hR1 := Lib.hid hR1_
  have hr1 := Lib.hid ((hK1_.block _ (lt_of_block hq0.out) (by have := hpw.out; omega)).trans hq0.out)
  have hK1 := Lib.hid ((Kept.of_below (· = p) hBq.out).trans hK1_ (fun _ _ h => h))
  have hsz1 : Hid (w.heap.size < w1.heap.size) := Lib.hid (Nat.lt_of_lt_of_le (lt_of_block hq0.out) hK1_.size)
  clear hO1_ hR1_ hK1_
  have hfd : ∀ W : World, (Instr.field 97 (.agg #[.slice A1 k.b.length c1, .int .i64 k.site, .int .i64 kw]) 0).run Tryz.prog W = .ok (.slice A1 k.b.length c1) W := fun _ => by kernel_rfl
  go_wp2_with fail
  refine (hdec.out A1 c1 w1 (RB.of_own hO1.out)).mono ?_
  rintro e w2 (⟨hG9_, AA, cA, BB, cB, rfl, hM_, hF_, hB2_⟩ | ⟨hG9_, rfl, hB2_⟩)
  · have hG9 := Lib.hid hG9_
    have hR2 := Lib.hid (hR1.out.later hB2_)
    have hr2 := Lib.hid (block_below hB2_ hr1.out)
    have hK2 := Lib.hid (hK1.out.trans (Kept.of_below (· = p) hB2_) (fun _ _ h => h))
    have hM := Lib.hid hM_
    have hFr9 := Lib.hid hF_
    have hFr8 : Hid (FreshM w AA BB) := Lib.hid ⟨fun ad e => by have := hF_.1 ad e; have := hsz1.out; omega, fun ad e => by have := hF_.2 ad e; have := hsz1.out; omega⟩
    clear hM_ hF_ hB2_ hG9_ hfd hdec
    obtain ⟨kind, from_, to_, g, node, try_, low, code, ticket, told, ops⟩ := m
    simp only [msgA]
    have hB3 := Lib.hid (below_alloc (Below.refl _ w2) (.cells #[.int .i64 kind, .int .i64 from_, .int .i64 to_, .int .i64 g, .int .i64 node, .int .i64 try_, .int .i64 low, .int .i64 code, .int .i64 ticket, .slice AA told.length cA, .slice BB ops.length cB] 31))
    have hr3 := Lib.hid (block_below hB3.out hr2.out)
    have hbz9 := hr3
    have hR9 := Lib.hid (hR2.out.later hB3.out)
    have hK9 := Lib.hid (hK2.out.trans (Kept.of_below (· = p) hB3.out) (fun _ _ h => h))
    have hMR9 := Lib.hid (hM.out.below hB3.out)
    have hbz := hr3.out
    obtain ⟨x0, x1, x2, x3, x4, x5, x6, x7, x8, x9, x10⟩ := msg_cells hbz
    obtain ⟨f0, f1, f2, f3, f4, f5, f6, f7, f8, f9, f10⟩ := msg_free hbz
    have hbz2 := Lib.hid hbz
    clear hbz
    go_wp2_with fail
    have hbz := hbz2.out
    clear x0 f0 x1 f1 x2 f2 x3 f3 x4 f4 x5 f5 x6 f6 x7 f7 x8 f8 x9 f9 x10 f10
    generalize (w2.alloc (.cells #[.int .i64 kind, .int .i64 from_, .int .i64 to_, .int .i64 g, .int .i64 node, .int .i64 try_, .int .i64 low, .int .i64 code, .int .i64 ticket, .slice AA told.length cA, .slice BB ops.length cB] 31)) = W3 at *
    obtain ⟨WZ10, hch_, hzA10_, hKz⟩ := msg_stored hbz (.int .i64 kind) (.int .i64 from_) (.int .i64 to_) (.int .i64 g) (.int .i64 node) (.int .i64 try_) (.int .i64 low) (.int .i64 code) (.int .i64 ticket) (.slice AA told.length cA) (.slice BB ops.length cB)
    have hCH := Lib.hid hch_
    have hzA10H := Lib.hid hzA10_
    clear hch_ hzA10_
    have hKZ := Lib.hid hKz
    clear hKz
    rw [hCH.out]
    have hzA10 := hzA10H.out
    obtain ⟨c0, c1, c2, c3, c4, c5, c6, c7, c8, c9, c10⟩ := msg_cells hzA10
    clear hbz hzA10
    go_wp2_with fail
    refine bodyPost_ret (v := .tuple #[.agg (msgA ⟨kind, from_, to_, g, node, try_, low, code, ticket, told, ops⟩ AA cA BB cB), .int .i64 0]) ?_ rfl ⟨.inl ⟨hG9.out, AA, cA, BB, cB, rfl, hMR9.out.keptS hKZ.out (.inr fun ad e => by subst e; have := hFr9.out.1 ad rfl; have := hsz1.out; show ad.block ≠ w.heap.size; omega) (.inr fun ad e => by subst e; have := hFr9.out.2 ad rfl; have := hsz1.out; show ad.block ≠ w.heap.size; omega), hFr8.out⟩, hR9.out.keptS hKZ.out (fun q cur T fr hq h9 => by subst hq; rw [hbz9.out] at h9; simp only [Option.some.injEq, Obj.cells.injEq] at h9; rw [← h9.2.1]; decide), hK9.out.trans hKZ.out (by rintro q hq rfl; omega)⟩
    simp [results, Tryz.results50, go_sem, msgA, *]

  · have hG9 := Lib.hid hG9_
    have hR2 := Lib.hid (hR1.out.later hB2_)
    have hr2 := Lib.hid (block_below hB2_ hr1.out)
    have hK2 := Lib.hid (hK1.out.trans (Kept.of_below (· = p) hB2_) (fun _ _ h => h))
    clear hB2_ hG9_ hfd hdec
    unfold zeroV
    have hB3 := Lib.hid (below_alloc (Below.refl _ w2) (.cells #[.int .i64 0, .int .i64 0, .int .i64 0, .int .i64 0, .int .i64 0, .int .i64 0, .int .i64 0, .int .i64 0, .int .i64 0, .slice none 0 0, .slice none 0 0] 31))
    have hr3 := Lib.hid (block_below hB3.out hr2.out)
    have hbz9 := hr3
    have hR9 := Lib.hid (hR2.out.later hB3.out)
    have hK9 := Lib.hid (hK2.out.trans (Kept.of_below (· = p) hB3.out) (fun _ _ h => h))
    have hbz := hr3.out
    obtain ⟨x0, x1, x2, x3, x4, x5, x6, x7, x8, x9, x10⟩ := msg_cells hbz
    obtain ⟨f0, f1, f2, f3, f4, f5, f6, f7, f8, f9, f10⟩ := msg_free hbz
    have hbz2 := Lib.hid hbz
    clear hbz
    go_wp2_with fail
    have hbz := hbz2.out
    clear x0 f0 x1 f1 x2 f2 x3 f3 x4 f4 x5 f5 x6 f6 x7 f7 x8 f8 x9 f9 x10 f10
    generalize (w2.alloc (.cells #[.int .i64 0, .int .i64 0, .int .i64 0, .int .i64 0, .int .i64 0, .int .i64 0, .int .i64 0, .int .i64 0, .int .i64 0, .slice none 0 0, .slice none 0 0] 31)) = W3 at *
    obtain ⟨WZ10, hch_, hzA10_, hKz⟩ := msg_stored hbz (.int .i64 0) (.int .i64 0) (.int .i64 0) (.int .i64 0) (.int .i64 0) (.int .i64 0) (.int .i64 0) (.int .i64 0) (.int .i64 0) (.slice none 0 0) (.slice none 0 0)
    have hCH := Lib.hid hch_
    have hzA10H := Lib.hid hzA10_
    clear hch_ hzA10_
    have hKZ := Lib.hid hKz
    clear hKz
    rw [hCH.out]
    have hzA10 := hzA10H.out
    obtain ⟨c0, c1, c2, c3, c4, c5, c6, c7, c8, c9, c10⟩ := msg_cells hzA10
    clear hbz hzA10
    go_wp2_with fail
    refine bodyPost_ret (v := .tuple #[zeroV, .int .i64 6]) ?_ rfl ⟨.inr ⟨hG9.out, rfl⟩, hR9.out.keptS hKZ.out (fun q cur T fr hq h9 => by subst hq; rw [hbz9.out] at h9; simp only [Option.some.injEq, Obj.cells.injEq] at h9; rw [← h9.2.1]; decide), hK9.out.trans hKZ.out (by rintro q hq rfl; omega)⟩
    simp [results, Tryz.results50, go_sem, zeroV, *]

end Go.Proofs.YteeiacfddjhhkaaGreatDoor
