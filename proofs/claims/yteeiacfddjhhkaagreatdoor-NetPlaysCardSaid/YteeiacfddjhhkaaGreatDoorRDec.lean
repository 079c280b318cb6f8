/- The document's Decode of messages: at a message's bytes (G) the message; at bytes of no message none. -/
import Derived.Test.YteeiacfddjhhkaaGreatDoorREnc
import Derived.Test.YteeiacfddjhhkaaGreatDoorROpsDec
import Derived.Test.YteeiacfddjhhkaaGreatDoorRPeel
import Derived.Test.YteeiacfddjhhkaaGreatDoorDec
namespace Go.Proofs.YteeiacfddjhhkaaGreatDoor
open Go.RowKit
set_option maxRecDepth 100000

def okM (m : PMsg) : Prop := i64ok m.ticket ∧ (∀ n ∈ m.told, i64ok n) ∧ (∀ o ∈ m.ops, o.ok)
def RMsgRet (G : Prop) (m : PMsg) (w : World) (e : Ending) (w' : World) : Prop :=
  (G ∧ ∃ A c B d, e = .returned (.tuple #[.agg (msgA m A c B d), .bool true]) ∧ MsgR w' m A c B d ∧ FreshM w A B ∧ Below w.heap.size w w') ∨ (¬ G ∧ e = .returned (.tuple #[zeroV, .bool false]) ∧ Below w.heap.size w w')
theorem cell_keptR {w w' : World} {p q j : Nat} {v : Value} (hk : Kept (· = p) w w') (hq : q ≠ p) (h : w.cell? ⟨q, j, none⟩ = some v) : w'.cell? ⟨q, j, none⟩ = some v :=
  (World.cell?_of_block (hk.block q (World.block_lt_of_cell? w _ h) hq)).trans h
theorem q_step {w W : World} {q : Nat} {arr : Array Value} {T : TypeId} (i : Nat) (u : Value) (hQ : W.heap[q]? = some (.cells arr T (0, 0))) (hB : Below w.heap.size w W) (hwq : w.heap.size ≤ q) :
    (W.setCell ⟨q, i, none⟩ u).heap[q]? = some (.cells (arr.setIfInBounds i u) T (0, 0)) ∧ Below w.heap.size w (W.setCell ⟨q, i, none⟩ u) := by
  have h1 : ∀ k, k ≠ q → (W.setCell ⟨q, i, none⟩ u).heap[k]? = W.heap[k]? := fun k hk => Below.heap_setCell _ _ _ _ (by simpa using hk)
  refine ⟨block_setCell hQ i u, hB.os, hB.tape, hB.output, by rw [World.size_setCell]; exact hB.size, fun k hk => ?_⟩
  rw [h1 k (by omega)]
  exact hB.block k hk
set_option maxHeartbeats 8000000 in
theorem rmsgDec_any (G : Prop) (m : PMsg) (v : Value) (bs : List UInt8) (w : World) (h : RB w v bs) (hl : bs.length ≤ 100000) (hG : G → mayM m = true ∧ encM m = bs ∧ okM m) (hno : ¬ G → ∀ m', mayM m' = true → okM m' → encM m' ≠ bs) :
    Calls Tryz.prog 80 #[v] w (RMsgRet G m w) := by
  obtain ⟨A, c, hv, _⟩ := id h
  have hR := Lib.hid h
  have hN := Lib.hid hno
  have hF : Hid (G → MayFacts m) := Lib.hid (fun g => mayM_facts (hG g).1)
  have hBody : Hid (G → bs = wrapB (bodyM m) ∧ (bodyM m).length ≤ 1000) := Lib.hid (fun g => by
    have h1 := (hG g).2.1
    unfold encM at h1
    rw [(hG g).1] at h1
    exact ⟨h1.symm, bodyM_len (hG g).1⟩)
  have hGG0 : Hid (G → mayM m = true ∧ encM m = bs) := Lib.hid (fun g => ⟨(hG g).1, (hG g).2.1⟩)
  have hOK : Hid (G → okM m) := Lib.hid (fun g => (hG g).2.2)
  clear h hno hG
  subst hv
  obtain ⟨mk, mf, mt, mg, mn, my, ml, mc, mtk, mtold, mops⟩ := m
  have h0 := Lib.hid (heap_alloc_new w (.cells #[.int .i64 0, .int .i64 0, .int .i64 0, .int .i64 0, .int .i64 0, .int .i64 0, .int .i64 0, .int .i64 0, .int .i64 0, .slice none 0 0, .slice none 0 0] 31))
  have hB0 := Lib.hid (below_alloc (Below.refl _ w) (.cells #[.int .i64 0, .int .i64 0, .int .i64 0, .int .i64 0, .int .i64 0, .int .i64 0, .int .i64 0, .int .i64 0, .int .i64 0, .slice none 0 0, .slice none 0 0] 31))
  have hr0 : Hid (w.heap.size < (w.alloc (.cells #[.int .i64 0, .int .i64 0, .int .i64 0, .int .i64 0, .int .i64 0, .int .i64 0, .int .i64 0, .int .i64 0, .int .i64 0, .slice none 0 0, .slice none 0 0] 31)).heap.size) := Lib.hid (by rw [World.size_alloc]; omega)
  go_enter Tryz.func80, Tryz.ntmps80
  go_wp2_with fail
  generalize w.alloc (.cells #[.int .i64 0, .int .i64 0, .int .i64 0, .int .i64 0, .int .i64 0, .int .i64 0, .int .i64 0, .int .i64 0, .int .i64 0, .slice none 0 0, .slice none 0 0] 31) = W0 at *
  refine (rpeel_any _ bs _ (hR.out.below hB0.out) hl).mono ?_
  rintro e w1 (⟨pb, rest, A1, c1, hfr, rfl, hRb_, hB1_⟩ | ⟨hnf, rfl, hB1_⟩)
  case inr =>
    have hE : Hid (¬ G) := Lib.hid (fun g => hnf (bodyM ⟨mk, mf, mt, mg, mn, my, ml, mc, mtk, mtold, mops⟩) [] ⟨by have := (hBody.out g).2; omega, by rw [(hBody.out g).1, List.append_nil]⟩)
    have hB1 := Lib.hid hB1_
    clear hB1_ hnf
    have hbz := block_below hB1.out h0.out
    obtain ⟨x0, x1, x2, x3, x4, x5, x6, x7, x8, x9, x10⟩ := msg_cells hbz
    obtain ⟨f0, f1, f2, f3, f4, f5, f6, f7, f8, f9, f10⟩ := msg_free hbz
    obtain ⟨WZ10, hch_, hzA10_, hKz⟩ := msg_stored hbz (.int .i64 0) (.int .i64 0) (.int .i64 0) (.int .i64 0) (.int .i64 0) (.int .i64 0) (.int .i64 0) (.int .i64 0) (.int .i64 0) (.slice none 0 0) (.slice none 0 0)
    have hCH := Lib.hid hch_
    have hzA10H := Lib.hid hzA10_
    clear hch_ hzA10_
    have hKZ := Lib.hid hKz
    have hE9 := Lib.hid (kept_below (bnext hB0.out hB1.out) hKz (by rintro _ rfl; exact Nat.le_refl _))
    have hbz2 := Lib.hid hbz
    clear hKz hbz
    go_wp2_with fail
    have hbz := hbz2.out
    clear x0 f0 x1 f1 x2 f2 x3 f3 x4 f4 x5 f5 x6 f6 x7 f7 x8 f8 x9 f9 x10 f10
    rw [hCH.out]
    have hzA10 := hzA10H.out
    obtain ⟨c0, c1, c2, c3, c4, c5, c6, c7, c8, c9, c10⟩ := msg_cells hzA10
    clear hbz hzA10
    go_wp2_with fail
    refine bodyPost_ret (v := .tuple #[zeroV, .bool false]) ?_ rfl (.inr ⟨hE.out, rfl, hE9.out⟩)
    simp [results, Tryz.results80, go_sem, zeroV, *]
  have hlen := Lib.hid (frame_len hfr)
  have hRb := Lib.hid hRb_
  have hB1 := Lib.hid hB1_
  have hRest : Hid (G → rest = [] ∧ pb = bodyM ⟨mk, mf, mt, mg, mn, my, ml, mc, mtk, mtold, mops⟩) := Lib.hid (fun g => by
    have h1 := (hBody.out g).1
    have hf2 : frameAt bs (bodyM ⟨mk, mf, mt, mg, mn, my, ml, mc, mtk, mtold, mops⟩) [] := ⟨by have := (hBody.out g).2; omega, by rw [h1, List.append_nil]⟩
    have h2 := frame_same hfr hf2
    have h3 := frame_len hf2
    have h4 : rest = [] := List.eq_nil_of_length_eq_zero (by have h9 := hlen.out; simp at h3; omega)
    subst h4
    refine ⟨rfl, ?_⟩
    have h5 := hfr.2
    rw [List.append_nil] at h5
    exact wrapB_inj hfr.1 (by have := (hBody.out g).2; omega) (h5.symm.trans h1))
  have hpl := hfr.1
  have d0 : (((pb.length : Int) + 7) == 0) = false := by simp; omega
  clear hRb_ hB1_
  by_cases hr9 : rest.length = 0
  case neg =>
    have dn : (((pb.length : Int) + 7) != (bs.length : Int)) = true := by have h9 := hlen.out; simp; omega
    have hE : Hid (¬ G) := Lib.hid (fun g => hr9 (by rw [(hRest.out g).1]; rfl))
    clear hr9
    have hbz := block_below hB1.out h0.out
    obtain ⟨x0, x1, x2, x3, x4, x5, x6, x7, x8, x9, x10⟩ := msg_cells hbz
    obtain ⟨f0, f1, f2, f3, f4, f5, f6, f7, f8, f9, f10⟩ := msg_free hbz
    obtain ⟨WZ10, hch_, hzA10_, hKz⟩ := msg_stored hbz (.int .i64 0) (.int .i64 0) (.int .i64 0) (.int .i64 0) (.int .i64 0) (.int .i64 0) (.int .i64 0) (.int .i64 0) (.int .i64 0) (.slice none 0 0) (.slice none 0 0)
    have hCH := Lib.hid hch_
    have hzA10H := Lib.hid hzA10_
    clear hch_ hzA10_
    have hKZ := Lib.hid hKz
    have hE9 := Lib.hid (kept_below (bnext hB0.out hB1.out) hKz (by rintro _ rfl; exact Nat.le_refl _))
    have hbz2 := Lib.hid hbz
    clear hKz hbz
    go_wp2_with fail
    have hbz := hbz2.out
    clear x0 f0 x1 f1 x2 f2 x3 f3 x4 f4 x5 f5 x6 f6 x7 f7 x8 f8 x9 f9 x10 f10
    rw [hCH.out]
    have hzA10 := hzA10H.out
    obtain ⟨c0, c1, c2, c3, c4, c5, c6, c7, c8, c9, c10⟩ := msg_cells hzA10
    clear hbz hzA10
    go_wp2_with fail
    refine bodyPost_ret (v := .tuple #[zeroV, .bool false]) ?_ rfl (.inr ⟨hE.out, rfl, hE9.out⟩)
    simp [results, Tryz.results80, go_sem, zeroV, *]
  have dn : (((pb.length : Int) + 7) != (bs.length : Int)) = false := by have h9 := hlen.out; simp; omega
  have hWB : Hid (bs = wrapB pb) := Lib.hid (by
    have h1 : rest = [] := List.eq_nil_of_length_eq_zero hr9
    have h2 := hfr.2
    rw [h1, List.append_nil] at h2
    exact h2)
  clear hr9 hfr
  go_wp2_with fail
  refine (rof_any G _ pb (natB mk.toNat ++ (natB mf.toNat ++ (natB mt.toNat ++ (natB mg.toNat ++ (natB mn.toNat ++ (natB my.toNat ++ (natB ml.toNat ++ (natB mc.toNat ++ (natB mtk.toNat ++ (natB mtold.length ++ ((mtold.map numB).flatten ++ (strB (opsB mops) ++ [])))))))))))) _ hRb.out (by omega) (fun g => by rw [(hRest.out g).2]; simp [bodyM, numsM, natI])).mono ?_
  rintro e w2 ⟨p, rfl, hI1_, hp_, hB2_⟩
  have hI0 := Lib.hid hI1_
  have hI1 := Lib.hid (hI1_.later (below_alloc (Below.refl _ w2) (.cells #[.int .i64 0, .int .i64 0, .int .i64 0, .int .i64 0, .int .i64 0, .int .i64 0, .int .i64 0, .int .i64 0, .int .i64 0, .slice none 0 0, .slice none 0 0] 31)))
  have hBB := Lib.hid (bnext hB1.out hB2_)
  have hp : W0.heap.size ≤ p := Nat.le_trans hB1.out.size hp_
  have hB2 := Lib.hid (below_alloc hBB.out (.cells #[.int .i64 0, .int .i64 0, .int .i64 0, .int .i64 0, .int .i64 0, .int .i64 0, .int .i64 0, .int .i64 0, .int .i64 0, .slice none 0 0, .slice none 0 0] 31))
  clear hI1_ hp_ hB2_ d0 dn
  go_wp2_with fail
  obtain ⟨q, hq⟩ : ∃ q, w2.heap.size = q := ⟨_, rfl⟩
  have hq0 := Lib.hid (heap_alloc_new w2 (.cells #[.int .i64 0, .int .i64 0, .int .i64 0, .int .i64 0, .int .i64 0, .int .i64 0, .int .i64 0, .int .i64 0, .int .i64 0, .slice none 0 0, .slice none 0 0] 31))
  have hpq : p < q := by rw [← hq]; exact hI0.out.lt
  have hwq : W0.heap.size ≤ q := by omega
  generalize w2.alloc (.cells #[.int .i64 0, .int .i64 0, .int .i64 0, .int .i64 0, .int .i64 0, .int .i64 0, .int .i64 0, .int .i64 0, .int .i64 0, .slice none 0 0, .slice none 0 0] 31) = W at *
  rw [hq] at hq0
  rw [hq]
  refine (rsmall_any G mk.toNat _ p _ hI1.out (fun g => by have f := (hF.out g).kind; simp only at f; omega)).mono ?_
  rintro e ws3 ⟨kind, rfl, k_kind, hg_kind, hIs3_, hKs3_⟩
  have hg0 : Hid (G → kind = mk) := Lib.hid (fun g => by have h1 := hg_kind g; have f := (hF.out g).kind; simp only at f; omega)
  have hIs3 := Lib.hid hIs3_
  have hQs3 := Lib.hid ((hKs3_.block q (lt_of_block hq0.out) (by omega)).trans hq0.out)
  have hBs3 := Lib.hid (kept_below hB2.out hKs3_ (by rintro _ rfl; omega))
  clear hIs3_ hKs3_ hg_kind hI1 hq0 hB2
  have f0 : ws3.frozen? ⟨q, 0, none⟩ = false := block_free hQs3.out 0
  have x0 : ws3.cell? ⟨q, 0, none⟩ = some (.int .i64 0) := by rw [block_cell hQs3.out]; rfl
  go_wp2_with fail
  have t0 := Lib.hid (op_step (w := W0) 0 (.int .i64 kind) hIs3.out hQs3.out hBs3.out hpq hwq)
  generalize ws3.setCell ⟨q, 0, none⟩ (.int .i64 kind) = Ws3 at *
  have hIs3n := Lib.hid t0.out.1
  have hBs3n := Lib.hid t0.out.2.2
  have hQs3n : Hid (Ws3.heap[q]? = some (.cells #[.int .i64 kind, .int .i64 0, .int .i64 0, .int .i64 0, .int .i64 0, .int .i64 0, .int .i64 0, .int .i64 0, .int .i64 0, .slice none 0 0, .slice none 0 0] 31 (0, 0))) := Lib.hid t0.out.2.1
  clear t0 f0 x0 hIs3 hQs3 hBs3
  refine (rsmall_any G mf.toNat _ p _ hIs3n.out (fun g => by have f := (hF.out g).from_; simp only at f; omega)).mono ?_
  rintro e ws4 ⟨from_, rfl, k_from_, hg_from_, hIs4_, hKs4_⟩
  have hg1 : Hid (G → from_ = mf) := Lib.hid (fun g => by have h1 := hg_from_ g; have f := (hF.out g).from_; simp only at f; omega)
  have hIs4 := Lib.hid hIs4_
  have hQs4 := Lib.hid ((hKs4_.block q (lt_of_block hQs3n.out) (by omega)).trans hQs3n.out)
  have hBs4 := Lib.hid (kept_below hBs3n.out hKs4_ (by rintro _ rfl; omega))
  clear hIs4_ hKs4_ hg_from_ hIs3n hQs3n hBs3n
  have f1 : ws4.frozen? ⟨q, 1, none⟩ = false := block_free hQs4.out 1
  have x1 : ws4.cell? ⟨q, 1, none⟩ = some (.int .i64 0) := by rw [block_cell hQs4.out]; rfl
  go_wp2_with fail
  have t1 := Lib.hid (op_step (w := W0) 1 (.int .i64 from_) hIs4.out hQs4.out hBs4.out hpq hwq)
  generalize ws4.setCell ⟨q, 1, none⟩ (.int .i64 from_) = Ws4 at *
  have hIs4n := Lib.hid t1.out.1
  have hBs4n := Lib.hid t1.out.2.2
  have hQs4n : Hid (Ws4.heap[q]? = some (.cells #[.int .i64 kind, .int .i64 from_, .int .i64 0, .int .i64 0, .int .i64 0, .int .i64 0, .int .i64 0, .int .i64 0, .int .i64 0, .slice none 0 0, .slice none 0 0] 31 (0, 0))) := Lib.hid t1.out.2.1
  clear t1 f1 x1 hIs4 hQs4 hBs4
  refine (rsmall_any G mt.toNat _ p _ hIs4n.out (fun g => by have f := (hF.out g).to_; simp only at f; omega)).mono ?_
  rintro e ws5 ⟨to_, rfl, k_to_, hg_to_, hIs5_, hKs5_⟩
  have hg2 : Hid (G → to_ = mt) := Lib.hid (fun g => by have h1 := hg_to_ g; have f := (hF.out g).to_; simp only at f; omega)
  have hIs5 := Lib.hid hIs5_
  have hQs5 := Lib.hid ((hKs5_.block q (lt_of_block hQs4n.out) (by omega)).trans hQs4n.out)
  have hBs5 := Lib.hid (kept_below hBs4n.out hKs5_ (by rintro _ rfl; omega))
  clear hIs5_ hKs5_ hg_to_ hIs4n hQs4n hBs4n
  have f2 : ws5.frozen? ⟨q, 2, none⟩ = false := block_free hQs5.out 2
  have x2 : ws5.cell? ⟨q, 2, none⟩ = some (.int .i64 0) := by rw [block_cell hQs5.out]; rfl
  go_wp2_with fail
  have t2 := Lib.hid (op_step (w := W0) 2 (.int .i64 to_) hIs5.out hQs5.out hBs5.out hpq hwq)
  generalize ws5.setCell ⟨q, 2, none⟩ (.int .i64 to_) = Ws5 at *
  have hIs5n := Lib.hid t2.out.1
  have hBs5n := Lib.hid t2.out.2.2
  have hQs5n : Hid (Ws5.heap[q]? = some (.cells #[.int .i64 kind, .int .i64 from_, .int .i64 to_, .int .i64 0, .int .i64 0, .int .i64 0, .int .i64 0, .int .i64 0, .int .i64 0, .slice none 0 0, .slice none 0 0] 31 (0, 0))) := Lib.hid t2.out.2.1
  clear t2 f2 x2 hIs5 hQs5 hBs5
  refine (rsmall_any G mg.toNat _ p _ hIs5n.out (fun g => by have f := (hF.out g).g; simp only at f; omega)).mono ?_
  rintro e ws6 ⟨gg, rfl, k_gg, hg_gg, hIs6_, hKs6_⟩
  have hg3 : Hid (G → gg = mg) := Lib.hid (fun g => by have h1 := hg_gg g; have f := (hF.out g).g; simp only at f; omega)
  have hIs6 := Lib.hid hIs6_
  have hQs6 := Lib.hid ((hKs6_.block q (lt_of_block hQs5n.out) (by omega)).trans hQs5n.out)
  have hBs6 := Lib.hid (kept_below hBs5n.out hKs6_ (by rintro _ rfl; omega))
  clear hIs6_ hKs6_ hg_gg hIs5n hQs5n hBs5n
  have f3 : ws6.frozen? ⟨q, 3, none⟩ = false := block_free hQs6.out 3
  have x3 : ws6.cell? ⟨q, 3, none⟩ = some (.int .i64 0) := by rw [block_cell hQs6.out]; rfl
  go_wp2_with fail
  have t3 := Lib.hid (op_step (w := W0) 3 (.int .i64 gg) hIs6.out hQs6.out hBs6.out hpq hwq)
  generalize ws6.setCell ⟨q, 3, none⟩ (.int .i64 gg) = Ws6 at *
  have hIs6n := Lib.hid t3.out.1
  have hBs6n := Lib.hid t3.out.2.2
  have hQs6n : Hid (Ws6.heap[q]? = some (.cells #[.int .i64 kind, .int .i64 from_, .int .i64 to_, .int .i64 gg, .int .i64 0, .int .i64 0, .int .i64 0, .int .i64 0, .int .i64 0, .slice none 0 0, .slice none 0 0] 31 (0, 0))) := Lib.hid t3.out.2.1
  clear t3 f3 x3 hIs6 hQs6 hBs6
  refine (rsmall_any G mn.toNat _ p _ hIs6n.out (fun g => by have f := (hF.out g).node; simp only at f; omega)).mono ?_
  rintro e ws7 ⟨node, rfl, k_node, hg_node, hIs7_, hKs7_⟩
  have hg4 : Hid (G → node = mn) := Lib.hid (fun g => by have h1 := hg_node g; have f := (hF.out g).node; simp only at f; omega)
  have hIs7 := Lib.hid hIs7_
  have hQs7 := Lib.hid ((hKs7_.block q (lt_of_block hQs6n.out) (by omega)).trans hQs6n.out)
  have hBs7 := Lib.hid (kept_below hBs6n.out hKs7_ (by rintro _ rfl; omega))
  clear hIs7_ hKs7_ hg_node hIs6n hQs6n hBs6n
  have f4 : ws7.frozen? ⟨q, 4, none⟩ = false := block_free hQs7.out 4
  have x4 : ws7.cell? ⟨q, 4, none⟩ = some (.int .i64 0) := by rw [block_cell hQs7.out]; rfl
  go_wp2_with fail
  have t4 := Lib.hid (op_step (w := W0) 4 (.int .i64 node) hIs7.out hQs7.out hBs7.out hpq hwq)
  generalize ws7.setCell ⟨q, 4, none⟩ (.int .i64 node) = Ws7 at *
  have hIs7n := Lib.hid t4.out.1
  have hBs7n := Lib.hid t4.out.2.2
  have hQs7n : Hid (Ws7.heap[q]? = some (.cells #[.int .i64 kind, .int .i64 from_, .int .i64 to_, .int .i64 gg, .int .i64 node, .int .i64 0, .int .i64 0, .int .i64 0, .int .i64 0, .slice none 0 0, .slice none 0 0] 31 (0, 0))) := Lib.hid t4.out.2.1
  clear t4 f4 x4 hIs7 hQs7 hBs7
  refine (rsmall_any G my.toNat _ p _ hIs7n.out (fun g => by have f := (hF.out g).try_; simp only at f; omega)).mono ?_
  rintro e ws8 ⟨try_, rfl, k_try_, hg_try_, hIs8_, hKs8_⟩
  have hg5 : Hid (G → try_ = my) := Lib.hid (fun g => by have h1 := hg_try_ g; have f := (hF.out g).try_; simp only at f; omega)
  have hIs8 := Lib.hid hIs8_
  have hQs8 := Lib.hid ((hKs8_.block q (lt_of_block hQs7n.out) (by omega)).trans hQs7n.out)
  have hBs8 := Lib.hid (kept_below hBs7n.out hKs8_ (by rintro _ rfl; omega))
  clear hIs8_ hKs8_ hg_try_ hIs7n hQs7n hBs7n
  have f5 : ws8.frozen? ⟨q, 5, none⟩ = false := block_free hQs8.out 5
  have x5 : ws8.cell? ⟨q, 5, none⟩ = some (.int .i64 0) := by rw [block_cell hQs8.out]; rfl
  go_wp2_with fail
  have t5 := Lib.hid (op_step (w := W0) 5 (.int .i64 try_) hIs8.out hQs8.out hBs8.out hpq hwq)
  generalize ws8.setCell ⟨q, 5, none⟩ (.int .i64 try_) = Ws8 at *
  have hIs8n := Lib.hid t5.out.1
  have hBs8n := Lib.hid t5.out.2.2
  have hQs8n : Hid (Ws8.heap[q]? = some (.cells #[.int .i64 kind, .int .i64 from_, .int .i64 to_, .int .i64 gg, .int .i64 node, .int .i64 try_, .int .i64 0, .int .i64 0, .int .i64 0, .slice none 0 0, .slice none 0 0] 31 (0, 0))) := Lib.hid t5.out.2.1
  clear t5 f5 x5 hIs8 hQs8 hBs8
  refine (rsmall_any G ml.toNat _ p _ hIs8n.out (fun g => by have f := (hF.out g).low; simp only at f; omega)).mono ?_
  rintro e ws9 ⟨low, rfl, k_low, hg_low, hIs9_, hKs9_⟩
  have hg6 : Hid (G → low = ml) := Lib.hid (fun g => by have h1 := hg_low g; have f := (hF.out g).low; simp only at f; omega)
  have hIs9 := Lib.hid hIs9_
  have hQs9 := Lib.hid ((hKs9_.block q (lt_of_block hQs8n.out) (by omega)).trans hQs8n.out)
  have hBs9 := Lib.hid (kept_below hBs8n.out hKs9_ (by rintro _ rfl; omega))
  clear hIs9_ hKs9_ hg_low hIs8n hQs8n hBs8n
  have f6 : ws9.frozen? ⟨q, 6, none⟩ = false := block_free hQs9.out 6
  have x6 : ws9.cell? ⟨q, 6, none⟩ = some (.int .i64 0) := by rw [block_cell hQs9.out]; rfl
  go_wp2_with fail
  have t6 := Lib.hid (op_step (w := W0) 6 (.int .i64 low) hIs9.out hQs9.out hBs9.out hpq hwq)
  generalize ws9.setCell ⟨q, 6, none⟩ (.int .i64 low) = Ws9 at *
  have hIs9n := Lib.hid t6.out.1
  have hBs9n := Lib.hid t6.out.2.2
  have hQs9n : Hid (Ws9.heap[q]? = some (.cells #[.int .i64 kind, .int .i64 from_, .int .i64 to_, .int .i64 gg, .int .i64 node, .int .i64 try_, .int .i64 low, .int .i64 0, .int .i64 0, .slice none 0 0, .slice none 0 0] 31 (0, 0))) := Lib.hid t6.out.2.1
  clear t6 f6 x6 hIs9 hQs9 hBs9
  refine (rsmall_any G mc.toNat _ p _ hIs9n.out (fun g => by have f := (hF.out g).code; simp only at f; omega)).mono ?_
  rintro e ws10 ⟨code, rfl, k_code, hg_code, hIs10_, hKs10_⟩
  have hg7 : Hid (G → code = mc) := Lib.hid (fun g => by have h1 := hg_code g; have f := (hF.out g).code; simp only at f; omega)
  have hIs10 := Lib.hid hIs10_
  have hQs10 := Lib.hid ((hKs10_.block q (lt_of_block hQs9n.out) (by omega)).trans hQs9n.out)
  have hBs10 := Lib.hid (kept_below hBs9n.out hKs10_ (by rintro _ rfl; omega))
  clear hIs10_ hKs10_ hg_code hIs9n hQs9n hBs9n
  have f7 : ws10.frozen? ⟨q, 7, none⟩ = false := block_free hQs10.out 7
  have x7 : ws10.cell? ⟨q, 7, none⟩ = some (.int .i64 0) := by rw [block_cell hQs10.out]; rfl
  go_wp2_with fail
  have t7 := Lib.hid (op_step (w := W0) 7 (.int .i64 code) hIs10.out hQs10.out hBs10.out hpq hwq)
  generalize ws10.setCell ⟨q, 7, none⟩ (.int .i64 code) = Ws10 at *
  have hIs10n := Lib.hid t7.out.1
  have hBs10n := Lib.hid t7.out.2.2
  have hQs10n : Hid (Ws10.heap[q]? = some (.cells #[.int .i64 kind, .int .i64 from_, .int .i64 to_, .int .i64 gg, .int .i64 node, .int .i64 try_, .int .i64 low, .int .i64 code, .int .i64 0, .slice none 0 0, .slice none 0 0] 31 (0, 0))) := Lib.hid t7.out.2.1
  clear t7 f7 x7 hIs10 hQs10 hBs10
  refine (rNat_any G mtk.toNat _ p _ hIs10n.out (fun g => by have f := (hOK.out g).1.2; simp only at f; omega)).mono ?_
  rintro e w20 ⟨tk, rfl, htk, htkg, hI20_, hK20_⟩
  have hg8 : Hid (G → (tk : Int) = mtk) := Lib.hid (fun g => by have h1 := htkg g; have f := (hF.out g).ticket; simp only at f; omega)
  have hI20 := Lib.hid hI20_
  have hQ20 := Lib.hid ((hK20_.block q (lt_of_block hQs10n.out) (by omega)).trans hQs10n.out)
  have hB20 := Lib.hid (kept_below hBs10n.out hK20_ (by rintro _ rfl; omega))
  clear hI20_ hK20_ htkg hIs10n hQs10n hBs10n
  go_wp2_with fail
  refine (rNat_any G mtold.length _ p _ hI20.out (fun g => by have f := (hF.out g).told; simp only at f; omega)).mono ?_
  rintro e w30 ⟨kk, rfl, hkk, hkkg, hI30_, hK30_⟩
  have hKG : Hid (G → kk = mtold.length ∧ mtold.length ≤ 8) := Lib.hid (fun g => ⟨hkkg g, (hF.out g).told⟩)
  have hI30 := Lib.hid hI30_
  have hQ30 := Lib.hid ((hK30_.block q (lt_of_block hQ20.out) (by omega)).trans hQ20.out)
  have hB30 := Lib.hid (kept_below hB20.out hK30_ (by rintro _ rfl; omega))
  clear hI30_ hK30_ hkkg hI20 hQ20 hB20
  go_wp2_with fail
  go_loopw [10] (fun i wr => ∃ (k : Nat) (told : List Int), k ≤ 9 ∧ i = .int .u64 k ∧ told.length = k ∧ (∀ x ∈ told, i64ok x) ∧ ∃ tv : Value, wr.heap[q]? = some (.cells #[.int .i64 kind, .int .i64 from_, .int .i64 to_, .int .i64 gg, .int .i64 node, .int .i64 try_, .int .i64 low, .int .i64 code, .int .i64 0, tv, .slice none 0 0] 31 (0, 0)) ∧ wr.ownsRow (q + 1) 2 1 tv k (i64s told) ∧ RdAt G wr p (((mtold.drop k).map numB).flatten ++ (strB (opsB mops) ++ [])) ∧ (G → told = mtold.take k) ∧ Below W0.heap.size W0 wr) (fun i _ => 9 - (intOf i).toNat)
  case atStart => exact ⟨0, [], by omega, rfl, rfl, by simp, _, hQ30.out, own_nil _ _ _ _, hI30.out, fun _ => rfl, hB30.out⟩
  case round =>
    obtain ⟨k, told, hk, rfl, hkl, htok_, tv, hQ_, hO_, hI_, htg_, hB_⟩ := hrel
    obtain ⟨Atv, ctv, rfl⟩ := own_slice hO_
    have hQ := Lib.hid hQ_
    have hO := Lib.hid hO_
    have hB := Lib.hid hB_
    have hI := Lib.hid hI_
    have htok := Lib.hid htok_
    have htg := Lib.hid htg_
    have hKL := Lib.hid hkl
    by_cases hlt : k < kk
    case neg =>
      have dk : decide (k < kk) = false := by simpa using hlt
      have hI9 : Hid (RdAt G wr p (strB (opsB mops) ++ [])) := Lib.hid (by
        obtain ⟨A9, c9, bs9, k9, er, bad, hC9, hg9⟩ := hI.out
        refine ⟨A9, c9, bs9, k9, er, bad, hC9, fun g => ⟨(hg9 g).1, ?_⟩⟩
        have h1 := hKG.out g
        rw [(hg9 g).2, List.drop_of_length_le (by omega)]
        rfl)
      have hTG : Hid (G → told = mtold) := Lib.hid (fun g => by
        have h1 := hKG.out g
        rw [htg.out g, List.take_of_length_le (by omega)])
      clear hI_ hO_ hB_ hQ_ htok_ htg_ hlt
      go_wp2_with fail
      subst hkl
      have hO9 := hO
      refine (rStr_any G (opsB mops) [] 400 p _ hI9.out (fun g => opsB_len400 (hF.out g).ops) (by omega)).mono ?_
      rintro e w40 ⟨str, rfl, hstr, hstrg, hI40_, hK40_⟩
      obtain ⟨sb, hsb⟩ : ∃ sb : ByteArray, (⟨str.toArray⟩ : ByteArray) = sb := ⟨_, rfl⟩
      have hsz : sb.size ≤ 400 := by rw [← hsb]; show str.toArray.size ≤ 400; simpa using hstr
      have hsd : Hid (G → sb.data.toList = opsB mops) := Lib.hid (fun g => by rw [← hsb, hstrg g])
      have hI40 := Lib.hid hI40_
      have hQ40 := Lib.hid ((hK40_.block q (lt_of_block hQ.out) (by omega)).trans hQ.out)
      have hB40 := Lib.hid (kept_below hB.out hK40_ (by rintro _ rfl; omega))
      have hO40 := Lib.hid (own_kept hO.out hK40_ (by rintro j hj rfl; omega))
      rw [hsb]
      clear hI40_ hK40_ hI9 hI hQ hB hO hO9 hsb hstr hstrg
      go_wp2_with (refine list_of_wp rfl ?_; refine wp_conv_SB (.tmp 77) sb (by omega) rfl rfl ?_; intro A41 c41 w41 hR41_ hB41_)
      have hR41 := Lib.hid hR41_
      have hB41 := Lib.hid hB41_
      have h41 : Hid (q < w41.heap.size) := Lib.hid (lt_of_block (block_below hB41_ hQ40.out))
      clear hR41_ hB41_
      go_wp2_with fail
      refine (ropsDec_any G mops _ _ _ hR41.out (by simp; omega) (fun g => by
        have hck := checkO_len (hF.out g).ops
        exact ⟨hsd.out g, Nat.le_trans hck.1 (by decide), fun o ho => ⟨(hOK.out g).2.2 o ho, by unfold goodO; rw [(hck.2 o ho).1, (hck.2 o ho).2]; rfl, key_le (hck.2 o ho).2⟩⟩)).mono ?_
      rintro e w42 ⟨A42, c42, ops, x42, rfl, hO42_, hol, hops_, hopsg_, hB42_⟩
      have hops := Lib.hid hops_
      have hopsg := Lib.hid hopsg_
      have hO42 := Lib.hid hO42_
      have hB42 := Lib.hid (bnext hB41.out hB42_)
      have hQ42 := Lib.hid (block_below hB42.out hQ40.out)
      have hI42 := Lib.hid (hI40.out.later hB42.out)
      have hW42 := Lib.hid (hB40.out.trans (hB42.out.mono hB40.out.size))
      have hT42 := Lib.hid (own_below hO40.out hB42.out)
      clear hO42_ hB42_ hR41 hB41 hO40 hB42 hQ40 hI40 hB40 hops_ hopsg_
      go_wp2_with fail
      refine (rEnd_any G p _ hI42.out).mono ?_
      rintro e w43 ⟨xE, rfl, hxEg, hK43_⟩
      have hXE := Lib.hid hxEg
      have hQ43 := Lib.hid ((hK43_.block q (lt_of_block hQ42.out) (by omega)).trans hQ42.out)
      have hW43 := Lib.hid (kept_below hW42.out hK43_ (by rintro _ rfl; omega))
      have hT43 := Lib.hid (own_kept hT42.out hK43_ (by rintro j hj rfl; omega))
      have hO43 := Lib.hid (own_kept hO42.out hK43_ (by rintro j hj rfl; have := h41.out; omega))
      clear hK43_ hxEg hI42 hQ42 hW42 hT42 hO42
      by_cases hz : xE ≠ 0
      case pos =>
        have dz : (xE != 0) = true := by simpa using hz
        have hE : Hid (¬ G) := Lib.hid (fun g => hz (hXE.out g))
        clear hz
        have hbz := block_below hW43.out h0.out
        obtain ⟨x0, x1, x2, x3, x4, x5, x6, x7, x8, x9, x10⟩ := msg_cells hbz
        obtain ⟨f0, f1, f2, f3, f4, f5, f6, f7, f8, f9, f10⟩ := msg_free hbz
        obtain ⟨WZ10, hch_, hzA10_, hKz⟩ := msg_stored hbz (.int .i64 0) (.int .i64 0) (.int .i64 0) (.int .i64 0) (.int .i64 0) (.int .i64 0) (.int .i64 0) (.int .i64 0) (.int .i64 0) (.slice none 0 0) (.slice none 0 0)
        have hCH := Lib.hid hch_
        have hzA10H := Lib.hid hzA10_
        clear hch_ hzA10_
        have hKZ := Lib.hid hKz
        have hE9 := Lib.hid (kept_below (bnext hB0.out hW43.out) hKz (by rintro _ rfl; exact Nat.le_refl _))
        have hbz2 := Lib.hid hbz
        clear hKz hbz
        go_wp2_with fail
        have hbz := hbz2.out
        clear x0 f0 x1 f1 x2 f2 x3 f3 x4 f4 x5 f5 x6 f6 x7 f7 x8 f8 x9 f9 x10 f10
        rw [hCH.out]
        have hzA10 := hzA10H.out
        obtain ⟨c0, c1, c2, c3, c4, c5, c6, c7, c8, c9, c10⟩ := msg_cells hzA10
        clear hbz hzA10
        go_wp2_with fail
        refine bodyPost_ret (v := .tuple #[zeroV, .bool false]) ?_ rfl (.inr ⟨hE.out, rfl, hE9.out⟩)
        simp [results, Tryz.results80, go_sem, zeroV, *]
      have hz0 : xE = 0 := by simpa using hz
      subst hz0
      clear hz
      by_cases hz : x42 ≠ 0
      case pos =>
        have dz : (x42 != 0) = true := by simpa using hz
        have hE : Hid (¬ G) := Lib.hid (fun g => hz (hopsg.out g).1)
        clear hz
        have hbz := block_below hW43.out h0.out
        obtain ⟨x0, x1, x2, x3, x4, x5, x6, x7, x8, x9, x10⟩ := msg_cells hbz
        obtain ⟨f0, f1, f2, f3, f4, f5, f6, f7, f8, f9, f10⟩ := msg_free hbz
        obtain ⟨WZ10, hch_, hzA10_, hKz⟩ := msg_stored hbz (.int .i64 0) (.int .i64 0) (.int .i64 0) (.int .i64 0) (.int .i64 0) (.int .i64 0) (.int .i64 0) (.int .i64 0) (.int .i64 0) (.slice none 0 0) (.slice none 0 0)
        have hCH := Lib.hid hch_
        have hzA10H := Lib.hid hzA10_
        clear hch_ hzA10_
        have hKZ := Lib.hid hKz
        have hE9 := Lib.hid (kept_below (bnext hB0.out hW43.out) hKz (by rintro _ rfl; exact Nat.le_refl _))
        have hbz2 := Lib.hid hbz
        clear hKz hbz
        go_wp2_with fail
        have hbz := hbz2.out
        clear x0 f0 x1 f1 x2 f2 x3 f3 x4 f4 x5 f5 x6 f6 x7 f7 x8 f8 x9 f9 x10 f10
        rw [hCH.out]
        have hzA10 := hzA10H.out
        obtain ⟨c0, c1, c2, c3, c4, c5, c6, c7, c8, c9, c10⟩ := msg_cells hzA10
        clear hbz hzA10
        go_wp2_with fail
        refine bodyPost_ret (v := .tuple #[zeroV, .bool false]) ?_ rfl (.inr ⟨hE.out, rfl, hE9.out⟩)
        simp [results, Tryz.results80, go_sem, zeroV, *]
      have hz0 : x42 = 0 := by simpa using hz
      subst hz0
      clear hz
      by_cases hz : 8 < kk
      case pos =>
        have dz : decide ((8 : Int) < kk) = true := decide_eq_true (by omega)
        have dz2 : decide (8 < kk) = true := decide_eq_true hz
        have hE : Hid (¬ G) := Lib.hid (fun g => by have := hKG.out g; omega)
        clear hz
        have hbz := block_below hW43.out h0.out
        obtain ⟨x0, x1, x2, x3, x4, x5, x6, x7, x8, x9, x10⟩ := msg_cells hbz
        obtain ⟨f0, f1, f2, f3, f4, f5, f6, f7, f8, f9, f10⟩ := msg_free hbz
        obtain ⟨WZ10, hch_, hzA10_, hKz⟩ := msg_stored hbz (.int .i64 0) (.int .i64 0) (.int .i64 0) (.int .i64 0) (.int .i64 0) (.int .i64 0) (.int .i64 0) (.int .i64 0) (.int .i64 0) (.slice none 0 0) (.slice none 0 0)
        have hCH := Lib.hid hch_
        have hzA10H := Lib.hid hzA10_
        clear hch_ hzA10_
        have hKZ := Lib.hid hKz
        have hE9 := Lib.hid (kept_below (bnext hB0.out hW43.out) hKz (by rintro _ rfl; exact Nat.le_refl _))
        have hbz2 := Lib.hid hbz
        clear hKz hbz
        go_wp2_with fail
        have hbz := hbz2.out
        clear x0 f0 x1 f1 x2 f2 x3 f3 x4 f4 x5 f5 x6 f6 x7 f7 x8 f8 x9 f9 x10 f10
        rw [hCH.out]
        have hzA10 := hzA10H.out
        obtain ⟨c0, c1, c2, c3, c4, c5, c6, c7, c8, c9, c10⟩ := msg_cells hzA10
        clear hbz hzA10
        go_wp2_with fail
        refine bodyPost_ret (v := .tuple #[zeroV, .bool false]) ?_ rfl (.inr ⟨hE.out, rfl, hE9.out⟩)
        simp [results, Tryz.results80, go_sem, zeroV, *]
      have dz8 : decide ((8 : Int) < kk) = false := decide_eq_false (by omega)
      have dz82 : decide (8 < kk) = false := decide_eq_false hz
      clear hz
      obtain ⟨ticket, htkt⟩ : ∃ t : Int, (tk : Int) = t := ⟨_, rfl⟩
      rw [htkt]
      have hg8b : Hid (G → ticket = mtk) := Lib.hid (fun g => by rw [← htkt]; exact hg8.out g)
      have htk0 : 0 ≤ ticket := by omega
      clear htkt htk hg8
      by_cases hz : 9223372036854775807 < ticket
      case pos =>
        have dz : decide (9223372036854775807 < ticket) = true := by simpa using hz
        have hE : Hid (¬ G) := Lib.hid (fun g => by have h1 := hg8b.out g; have h2 := (hOK.out g).1.2; simp only at h2; omega)
        clear hz
        have hbz := block_below hW43.out h0.out
        obtain ⟨x0, x1, x2, x3, x4, x5, x6, x7, x8, x9, x10⟩ := msg_cells hbz
        obtain ⟨f0, f1, f2, f3, f4, f5, f6, f7, f8, f9, f10⟩ := msg_free hbz
        obtain ⟨WZ10, hch_, hzA10_, hKz⟩ := msg_stored hbz (.int .i64 0) (.int .i64 0) (.int .i64 0) (.int .i64 0) (.int .i64 0) (.int .i64 0) (.int .i64 0) (.int .i64 0) (.int .i64 0) (.slice none 0 0) (.slice none 0 0)
        have hCH := Lib.hid hch_
        have hzA10H := Lib.hid hzA10_
        clear hch_ hzA10_
        have hKZ := Lib.hid hKz
        have hE9 := Lib.hid (kept_below (bnext hB0.out hW43.out) hKz (by rintro _ rfl; exact Nat.le_refl _))
        have hbz2 := Lib.hid hbz
        clear hKz hbz
        go_wp2_with fail
        have hbz := hbz2.out
        clear x0 f0 x1 f1 x2 f2 x3 f3 x4 f4 x5 f5 x6 f6 x7 f7 x8 f8 x9 f9 x10 f10
        rw [hCH.out]
        have hzA10 := hzA10H.out
        obtain ⟨c0, c1, c2, c3, c4, c5, c6, c7, c8, c9, c10⟩ := msg_cells hzA10
        clear hbz hzA10
        go_wp2_with fail
        refine bodyPost_ret (v := .tuple #[zeroV, .bool false]) ?_ rfl (.inr ⟨hE.out, rfl, hE9.out⟩)
        simp [results, Tryz.results80, go_sem, zeroV, *]
      have dzt : decide (9223372036854775807 < ticket) = false := by simpa using hz
      have wtk : IntKind.i64.wrap ticket = ticket := by rw [IntKind.wrap_i64]; omega
      have f8 : w43.frozen? ⟨q, 8, none⟩ = false := block_free hQ43.out 8
      have x8 : w43.cell? ⟨q, 8, none⟩ = some (.int .i64 0) := by rw [block_cell hQ43.out]; rfl
      have f10 : w43.frozen? ⟨q, 10, none⟩ = false := block_free hQ43.out 10
      have x10 : w43.cell? ⟨q, 10, none⟩ = some (.slice none 0 0) := by rw [block_cell hQ43.out]; rfl
      go_wp2_with fail
      have t8 := Lib.hid (q_step (w := W0) 8 (.int .i64 ticket) hQ43.out hW43.out hwq)
      have t10 := Lib.hid (q_step (w := W0) 10 (.slice A42 ops.length c42) t8.out.1 t8.out.2 hwq)
      have hT45 : Hid (((w43.setCell ⟨q, 8, none⟩ (.int .i64 ticket)).setCell ⟨q, 10, none⟩ (.slice A42 ops.length c42)).ownsRow (q + 1) 2 1 (.slice Atv told.length ctv) told.length (i64s told)) := Lib.hid (own_move hT43.out fun j hj => (Below.heap_setCell _ _ _ _ (by have := own_ge hT43.out j hj; show j ≠ q; omega)).trans (Below.heap_setCell _ _ _ _ (by have := own_ge hT43.out j hj; show j ≠ q; omega)))
      have hO45 : Hid (((w43.setCell ⟨q, 8, none⟩ (.int .i64 ticket)).setCell ⟨q, 10, none⟩ (.slice A42 ops.length c42)).ownsRow w41.heap.size 108 4 (.slice A42 ops.length c42) ops.length (opsC ops)) := Lib.hid (own_move hO43.out fun j hj => (Below.heap_setCell _ _ _ _ (by have := own_ge hO43.out j hj; have := h41.out; show j ≠ q; omega)).trans (Below.heap_setCell _ _ _ _ (by have := own_ge hO43.out j hj; have := h41.out; show j ≠ q; omega)))
      generalize (w43.setCell ⟨q, 8, none⟩ (.int .i64 ticket)).setCell ⟨q, 10, none⟩ (.slice A42 ops.length c42) = W45 at *
      have hQ45 : W45.heap[q]? = some (.cells #[.int .i64 kind, .int .i64 from_, .int .i64 to_, .int .i64 gg, .int .i64 node, .int .i64 try_, .int .i64 low, .int .i64 code, .int .i64 ticket, .slice Atv told.length ctv, .slice A42 ops.length c42] 31 (0, 0)) := t10.out.1
      have hW45 := Lib.hid t10.out.2
      have hW45d : Hid (Below W0.heap.size W0 W45.drew) := Lib.hid hW45.out.drew
      have y0 : W45.drew.cell? ⟨q, 0, none⟩ = some (.int .i64 kind) := (block_cell hQ45 _).trans rfl
      have y1 : W45.drew.cell? ⟨q, 1, none⟩ = some (.int .i64 from_) := (block_cell hQ45 _).trans rfl
      have y2 : W45.drew.cell? ⟨q, 2, none⟩ = some (.int .i64 to_) := (block_cell hQ45 _).trans rfl
      have y3 : W45.drew.cell? ⟨q, 3, none⟩ = some (.int .i64 gg) := (block_cell hQ45 _).trans rfl
      have y4 : W45.drew.cell? ⟨q, 4, none⟩ = some (.int .i64 node) := (block_cell hQ45 _).trans rfl
      have y5 : W45.drew.cell? ⟨q, 5, none⟩ = some (.int .i64 try_) := (block_cell hQ45 _).trans rfl
      have y6 : W45.drew.cell? ⟨q, 6, none⟩ = some (.int .i64 low) := (block_cell hQ45 _).trans rfl
      have y7 : W45.drew.cell? ⟨q, 7, none⟩ = some (.int .i64 code) := (block_cell hQ45 _).trans rfl
      have y8 : W45.drew.cell? ⟨q, 8, none⟩ = some (.int .i64 ticket) := (block_cell hQ45 _).trans rfl
      have y9 : W45.drew.cell? ⟨q, 9, none⟩ = some (.slice Atv told.length ctv) := (block_cell hQ45 _).trans rfl
      have y10 : W45.drew.cell? ⟨q, 10, none⟩ = some (.slice A42 ops.length c42) := (block_cell hQ45 _).trans rfl
      have hR45 : Hid (RB W45.drew (.slice A bs.length c) bs) := Lib.hid (hR.out.below (bnext hB0.out hW45d.out))
      have hMR : Hid (MsgR W45.drew ⟨kind, from_, to_, gg, node, try_, low, code, ticket, told, ops⟩ Atv ctv A42 c42) := Lib.hid ⟨RowAt.of_own hT45.out rfl, RowAt.of_own hO45.out rfl, by show told.length ≤ _; omega, by show ops.length ≤ _; omega, fun o ho => Nat.le_trans (hops.out o ho).2 (by decide), htok.out, fun o ho => (hops.out o ho).1, by simp only [i64ok]; refine ⟨?_, ?_, ?_, ?_, ?_, ?_, ?_, ?_, ?_⟩ <;> omega⟩
      have hMay := Lib.hid (fun W hr => rmsgMay_any ⟨kind, from_, to_, gg, node, try_, low, code, ticket, told, ops⟩ Atv ctv A42 c42 W hr hMR.out.opsle hMR.out.toldle hMR.out.keys)
      have hEnc := Lib.hid (fun W hr => renc_any ⟨kind, from_, to_, gg, node, try_, low, code, ticket, told, ops⟩ Atv ctv A42 c42 W hr hMR.out.opsle hMR.out.toldle hMR.out.keys)
      have hopsG : Hid (G → ops = mops) := Lib.hid (fun g => (hopsg.out g).2)
      have hcvA : ∀ W, RB W (.slice A bs.length c) bs → (convert 51 9 (.slice A bs.length c)).run Tryz.prog W = .ok (.string ⟨bs.toArray⟩) W := fun W hW => run_conv_BS hW
      have hGM : G → mayM ⟨kind, from_, to_, gg, node, try_, low, code, ticket, told, ops⟩ = true ∧ encM ⟨kind, from_, to_, gg, node, try_, low, code, ticket, told, ops⟩ = bs := fun g => by
        rw [hg0.out g, hg1.out g, hg2.out g, hg3.out g, hg4.out g, hg5.out g, hg6.out g, hg7.out g, hg8b.out g, hTG.out g, hopsG.out g]
        exact hGG0.out g
      have hGMM := Lib.hid hGM
      clear hGM t8 t10 f8 x8 f10 x10 hz hT43 hO43 hQ43
      simp only [msgA] at hMay hEnc
      go_wp2_with fail
      cases hmt : mayM ⟨kind, from_, to_, gg, node, try_, low, code, ticket, told, ops⟩
      case false =>
        have hE : Hid (¬ G) := Lib.hid (fun g => by have h1 := (hGMM.out g).1; rw [hmt] at h1; cases h1)
        refine wp_region_noPanic ?_
        refine wp_region_held_drew (S := (fun V => V.cell? ⟨q, 0, none⟩ = some (.int .i64 kind) ∧ V.cell? ⟨q, 1, none⟩ = some (.int .i64 from_) ∧ V.cell? ⟨q, 2, none⟩ = some (.int .i64 to_) ∧ V.cell? ⟨q, 3, none⟩ = some (.int .i64 gg) ∧ V.cell? ⟨q, 4, none⟩ = some (.int .i64 node) ∧ V.cell? ⟨q, 5, none⟩ = some (.int .i64 try_) ∧ V.cell? ⟨q, 6, none⟩ = some (.int .i64 low) ∧ V.cell? ⟨q, 7, none⟩ = some (.int .i64 code) ∧ V.cell? ⟨q, 8, none⟩ = some (.int .i64 ticket) ∧ V.cell? ⟨q, 9, none⟩ = some (.slice Atv told.length ctv) ∧ V.cell? ⟨q, 10, none⟩ = some (.slice A42 ops.length c42) ∧ RB V (.slice A bs.length c) bs)) (by kernel_rfl) (⟨y0, y1, y2, y3, y4, y5, y6, y7, y8, y9, y10, hR45.out⟩) (fun hS0 => ?_)
        refine wpAnyH_take (i := 0) (v := ?_) rfl (by kernel_rfl) (by kernel_rfl) (by kernel_rfl) (fun _ _ _ h => h) (Or.inl ⟨by rfl, ?_⟩) (by assumption) ?_
        rotate_left
        · intro w' hSw
          obtain ⟨q0, q1, q2, q3, q4, q5, q6, q7, q8, q9, q10, qr⟩ := hSw
          go_simp
          try with_reducible rfl
        try simp only [List.getElem_toArray, List.getElem_cons_succ, List.getElem_cons_zero, Act.put, List.setIfInBounds_toArray, List.set_cons_zero, List.set_cons_succ]
        refine wpAnyH_ready (rs := [1]) (by kernel_rfl) (by simp) ?_
        refine AllReadyH.cons rfl (fun K hK => ?_) AllReadyH.nil
        go_simp
        refine (hMay.out _ (hMR.out.ops)).mono ?_
        rintro e w50 ⟨rfl, hB50_⟩
        rw [hmt]
        have hB50 := Lib.hid hB50_
        clear hB50_
        refine hK.out _ _ (⟨cell_below hB50.out y0, cell_below hB50.out y1, cell_below hB50.out y2, cell_below hB50.out y3, cell_below hB50.out y4, cell_below hB50.out y5, cell_below hB50.out y6, cell_below hB50.out y7, cell_below hB50.out y8, cell_below hB50.out y9, cell_below hB50.out y10, hR45.out.below hB50.out⟩) (fun hS1 => ?_)
        clear hK K
        try simp only [List.getElem_toArray, List.getElem_cons_succ, List.getElem_cons_zero, Act.put, List.setIfInBounds_toArray, List.set_cons_zero, List.set_cons_succ]
        refine wpAnyH_take (i := 2) (v := ?_) rfl (by kernel_rfl) (by kernel_rfl) (by kernel_rfl) (fun _ _ _ h => h) (Or.inl ⟨by rfl, ?_⟩) (by assumption) ?_
        rotate_left
        · intro w' hSw
          go_simp
          try with_reducible rfl
        try simp only [List.getElem_toArray, List.getElem_cons_succ, List.getElem_cons_zero, Act.put, List.setIfInBounds_toArray, List.set_cons_zero, List.set_cons_succ]
        refine wpAnyH_take (i := 3) (v := ?_) rfl (by kernel_rfl) (by kernel_rfl) (by kernel_rfl) (fun _ _ _ h => h) (Or.inl ⟨by rfl, ?_⟩) (by assumption) ?_
        rotate_left
        · intro w' hSw
          go_simp
          try with_reducible rfl
        try simp only [List.getElem_toArray, List.getElem_cons_succ, List.getElem_cons_zero, Act.put, List.setIfInBounds_toArray, List.set_cons_zero, List.set_cons_succ]
        refine wpAnyH_take (i := 4) (v := undef) rfl (by kernel_rfl) (by kernel_rfl) (by kernel_rfl) (fun _ _ _ h => h) (Or.inr ⟨by rfl, rfl⟩) (by assumption) ?_
        try simp only [List.getElem_toArray, List.getElem_cons_succ, List.getElem_cons_zero, Act.put, List.setIfInBounds_toArray, List.set_cons_zero, List.set_cons_succ]
        refine wpAnyH_take (i := 5) (v := undef) rfl (by kernel_rfl) (by kernel_rfl) (by kernel_rfl) (fun _ _ _ h => h) (Or.inr ⟨by rfl, rfl⟩) (by assumption) ?_
        try simp only [List.getElem_toArray, List.getElem_cons_succ, List.getElem_cons_zero, Act.put, List.setIfInBounds_toArray, List.set_cons_zero, List.set_cons_succ]
        refine wpAnyH_take (i := 6) (v := undef) rfl (by kernel_rfl) (by kernel_rfl) (by kernel_rfl) (fun _ _ _ h => h) (Or.inr ⟨by rfl, rfl⟩) (by assumption) ?_
        try simp only [List.getElem_toArray, List.getElem_cons_succ, List.getElem_cons_zero, Act.put, List.setIfInBounds_toArray, List.set_cons_zero, List.set_cons_succ]
        refine wpAnyH_take (i := 7) (v := undef) rfl (by kernel_rfl) (by kernel_rfl) (by kernel_rfl) (fun _ _ _ h => h) (Or.inr ⟨by rfl, rfl⟩) (by assumption) ?_
        try simp only [List.getElem_toArray, List.getElem_cons_succ, List.getElem_cons_zero, Act.put, List.setIfInBounds_toArray, List.set_cons_zero, List.set_cons_succ]
        refine wpAnyH_take (i := 8) (v := undef) rfl (by kernel_rfl) (by kernel_rfl) (by kernel_rfl) (fun _ _ _ h => h) (Or.inr ⟨by rfl, rfl⟩) (by assumption) ?_
        try simp only [List.getElem_toArray, List.getElem_cons_succ, List.getElem_cons_zero, Act.put, List.setIfInBounds_toArray, List.set_cons_zero, List.set_cons_succ]
        refine wpAnyH_take (i := 9) (v := undef) rfl (by kernel_rfl) (by kernel_rfl) (by kernel_rfl) (fun _ _ _ h => h) (Or.inr ⟨by rfl, rfl⟩) (by assumption) ?_
        try simp only [List.getElem_toArray, List.getElem_cons_succ, List.getElem_cons_zero, Act.put, List.setIfInBounds_toArray, List.set_cons_zero, List.set_cons_succ]
        refine wpAnyH_take (i := 10) (v := ?_) rfl (by kernel_rfl) (by kernel_rfl) (by kernel_rfl) (fun _ _ _ h => h) (Or.inl ⟨by rfl, ?_⟩) (by assumption) ?_
        rotate_left
        · intro w' hSw
          go_simp
          try with_reducible rfl
        try simp only [List.getElem_toArray, List.getElem_cons_succ, List.getElem_cons_zero, Act.put, List.setIfInBounds_toArray, List.set_cons_zero, List.set_cons_succ]
        refine wpAnyH_done (by kernel_rfl) ?_ _
        refine NoPanic.normal ?_
        have hWX := Lib.hid (bnext hW45d.out hB50.out)
        clear hS0 hS1 hcvA
        have hbz := block_below hWX.out h0.out
        obtain ⟨x0, x1, x2, x3, x4, x5, x6, x7, x8, x9, x10⟩ := msg_cells hbz
        obtain ⟨f0, f1, f2, f3, f4, f5, f6, f7, f8, f9, f10⟩ := msg_free hbz
        obtain ⟨WZ10, hch_, hzA10_, hKz⟩ := msg_stored hbz (.int .i64 0) (.int .i64 0) (.int .i64 0) (.int .i64 0) (.int .i64 0) (.int .i64 0) (.int .i64 0) (.int .i64 0) (.int .i64 0) (.slice none 0 0) (.slice none 0 0)
        have hCH := Lib.hid hch_
        have hzA10H := Lib.hid hzA10_
        clear hch_ hzA10_
        have hKZ := Lib.hid hKz
        have hE9 := Lib.hid (kept_below (bnext hB0.out hWX.out) hKz (by rintro _ rfl; exact Nat.le_refl _))
        have hbz2 := Lib.hid hbz
        clear hKz hbz
        go_wp2_with fail
        have hbz := hbz2.out
        clear x0 f0 x1 f1 x2 f2 x3 f3 x4 f4 x5 f5 x6 f6 x7 f7 x8 f8 x9 f9 x10 f10
        rw [hCH.out]
        have hzA10 := hzA10H.out
        obtain ⟨c0, c1, c2, c3, c4, c5, c6, c7, c8, c9, c10⟩ := msg_cells hzA10
        clear hbz hzA10
        go_wp2_with fail
        refine bodyPost_ret (v := .tuple #[zeroV, .bool false]) ?_ rfl (.inr ⟨hE.out, rfl, hE9.out⟩)
        simp [results, Tryz.results80, go_sem, zeroV, *]
      refine wp_region_noPanic ?_
      refine wp_region_held_drew (S := (fun V => V.cell? ⟨q, 0, none⟩ = some (.int .i64 kind) ∧ V.cell? ⟨q, 1, none⟩ = some (.int .i64 from_) ∧ V.cell? ⟨q, 2, none⟩ = some (.int .i64 to_) ∧ V.cell? ⟨q, 3, none⟩ = some (.int .i64 gg) ∧ V.cell? ⟨q, 4, none⟩ = some (.int .i64 node) ∧ V.cell? ⟨q, 5, none⟩ = some (.int .i64 try_) ∧ V.cell? ⟨q, 6, none⟩ = some (.int .i64 low) ∧ V.cell? ⟨q, 7, none⟩ = some (.int .i64 code) ∧ V.cell? ⟨q, 8, none⟩ = some (.int .i64 ticket) ∧ V.cell? ⟨q, 9, none⟩ = some (.slice Atv told.length ctv) ∧ V.cell? ⟨q, 10, none⟩ = some (.slice A42 ops.length c42) ∧ RB V (.slice A bs.length c) bs)) (by kernel_rfl) (⟨y0, y1, y2, y3, y4, y5, y6, y7, y8, y9, y10, hR45.out⟩) (fun hS0 => ?_)
      refine wpAnyH_take (i := 0) (v := ?_) rfl (by kernel_rfl) (by kernel_rfl) (by kernel_rfl) (fun _ _ _ h => h) (Or.inl ⟨by rfl, ?_⟩) (by assumption) ?_
      rotate_left
      · intro w' hSw
        obtain ⟨q0, q1, q2, q3, q4, q5, q6, q7, q8, q9, q10, qr⟩ := hSw
        go_simp
        try with_reducible rfl
      try simp only [List.getElem_toArray, List.getElem_cons_succ, List.getElem_cons_zero, Act.put, List.setIfInBounds_toArray, List.set_cons_zero, List.set_cons_succ]
      refine wpAnyH_ready (rs := [1]) (by kernel_rfl) (by simp) ?_
      refine AllReadyH.cons rfl (fun K hK => ?_) AllReadyH.nil
      go_simp
      refine (hMay.out _ (hMR.out.ops)).mono ?_
      rintro e w50 ⟨rfl, hB50_⟩
      rw [hmt]
      have hB50 := Lib.hid hB50_
      clear hB50_
      refine hK.out _ _ (⟨cell_below hB50.out y0, cell_below hB50.out y1, cell_below hB50.out y2, cell_below hB50.out y3, cell_below hB50.out y4, cell_below hB50.out y5, cell_below hB50.out y6, cell_below hB50.out y7, cell_below hB50.out y8, cell_below hB50.out y9, cell_below hB50.out y10, hR45.out.below hB50.out⟩) (fun hS1 => ?_)
      clear hK K
      try simp only [List.getElem_toArray, List.getElem_cons_succ, List.getElem_cons_zero, Act.put, List.setIfInBounds_toArray, List.set_cons_zero, List.set_cons_succ]
      refine wpAnyH_take (i := 2) (v := ?_) rfl (by kernel_rfl) (by kernel_rfl) (by kernel_rfl) (fun _ _ _ h => h) (Or.inl ⟨by rfl, ?_⟩) (by assumption) ?_
      rotate_left
      · intro w' hSw
        go_simp
        try with_reducible rfl
      try simp only [List.getElem_toArray, List.getElem_cons_succ, List.getElem_cons_zero, Act.put, List.setIfInBounds_toArray, List.set_cons_zero, List.set_cons_succ]
      refine wpAnyH_take (i := 3) (v := ?_) rfl (by kernel_rfl) (by kernel_rfl) (by kernel_rfl) (fun _ _ _ h => h) (Or.inl ⟨by rfl, ?_⟩) (by assumption) ?_
      rotate_left
      · intro w' hSw
        go_simp
        try with_reducible rfl
      try simp only [List.getElem_toArray, List.getElem_cons_succ, List.getElem_cons_zero, Act.put, List.setIfInBounds_toArray, List.set_cons_zero, List.set_cons_succ]
      refine wpAnyH_take (i := 4) (v := ?_) rfl (by kernel_rfl) (by kernel_rfl) (by kernel_rfl) (fun _ _ _ h => h) (Or.inl ⟨by rfl, ?_⟩) (by assumption) ?_
      rotate_left
      · intro w' hSw
        obtain ⟨q0, q1, q2, q3, q4, q5, q6, q7, q8, q9, q10, qr⟩ := hSw
        go_simp
        try with_reducible rfl
      try simp only [List.getElem_toArray, List.getElem_cons_succ, List.getElem_cons_zero, Act.put, List.setIfInBounds_toArray, List.set_cons_zero, List.set_cons_succ]
      refine wpAnyH_take (i := 7) (v := ?_) rfl (by kernel_rfl) (by kernel_rfl) (by kernel_rfl) (fun _ _ _ h => h) (Or.inl ⟨by rfl, ?_⟩) (by assumption) ?_
      rotate_left
      · intro w' hSw
        go_simp
        try with_reducible rfl
      try simp only [List.getElem_toArray, List.getElem_cons_succ, List.getElem_cons_zero, Act.put, List.setIfInBounds_toArray, List.set_cons_zero, List.set_cons_succ]
      refine wpAnyH_take (i := 8) (v := ?_) rfl (by kernel_rfl) (by kernel_rfl) (by kernel_rfl) (fun _ _ _ h => h) (Or.inl ⟨by rfl, ?_⟩) (by assumption) ?_
      rotate_left
      · intro w' hSw
        obtain ⟨q0, q1, q2, q3, q4, q5, q6, q7, q8, q9, q10, qr⟩ := hSw
        go_simp
        try with_reducible rfl
      try simp only [List.getElem_toArray, List.getElem_cons_succ, List.getElem_cons_zero, Act.put, List.setIfInBounds_toArray, List.set_cons_zero, List.set_cons_succ]
      refine wpAnyH_ready (rs := [5]) (by kernel_rfl) (by simp) ?_
      refine AllReadyH.cons rfl (fun K hK => ?_) AllReadyH.nil
      go_simp
      refine (hEnc.out _ (hMR.out.below hB50.out)).mono ?_
      rintro e w51 ⟨A51, d51, rfl, hO51_, hB51_⟩
      have hB51 := Lib.hid (bnext hB50.out hB51_)
      have hcv1 := run_conv_BS (RB.of_own hO51_)
      clear hO51_ hB51_
      refine hK.out _ _ (⟨cell_below hB51.out y0, cell_below hB51.out y1, cell_below hB51.out y2, cell_below hB51.out y3, cell_below hB51.out y4, cell_below hB51.out y5, cell_below hB51.out y6, cell_below hB51.out y7, cell_below hB51.out y8, cell_below hB51.out y9, cell_below hB51.out y10, hR45.out.below hB51.out⟩) (fun hS2 => ?_)
      clear hK K
      try simp only [List.getElem_toArray, List.getElem_cons_succ, List.getElem_cons_zero, Act.put, List.setIfInBounds_toArray, List.set_cons_zero, List.set_cons_succ]
      refine wpAnyH_ready (rs := [6]) (by kernel_rfl) (by simp) ?_
      refine AllReadyH.cons rfl (fun K hK => ?_) AllReadyH.nil
      go_simp
      refine hK.out _ _ (⟨cell_below hB51.out y0, cell_below hB51.out y1, cell_below hB51.out y2, cell_below hB51.out y3, cell_below hB51.out y4, cell_below hB51.out y5, cell_below hB51.out y6, cell_below hB51.out y7, cell_below hB51.out y8, cell_below hB51.out y9, cell_below hB51.out y10, hR45.out.below hB51.out⟩) (fun hS3 => ?_)
      clear hK K
      try simp only [List.getElem_toArray, List.getElem_cons_succ, List.getElem_cons_zero, Act.put, List.setIfInBounds_toArray, List.set_cons_zero, List.set_cons_succ]
      refine wpAnyH_take (i := 9) (v := ?_) rfl (by kernel_rfl) (by kernel_rfl) (by kernel_rfl) (fun _ _ _ h => h) (Or.inl ⟨by rfl, ?_⟩) (by assumption) ?_
      rotate_left
      · intro w' hSw
        go_simp
        try with_reducible rfl
      try simp only [List.getElem_toArray, List.getElem_cons_succ, List.getElem_cons_zero, Act.put, List.setIfInBounds_toArray, List.set_cons_zero, List.set_cons_succ]
      refine wpAnyH_take (i := 10) (v := ?_) rfl (by kernel_rfl) (by kernel_rfl) (by kernel_rfl) (fun _ _ _ h => h) (Or.inl ⟨by rfl, ?_⟩) (by assumption) ?_
      rotate_left
      · intro w' hSw
        go_simp
        try with_reducible rfl
      try simp only [List.getElem_toArray, List.getElem_cons_succ, List.getElem_cons_zero, Act.put, List.setIfInBounds_toArray, List.set_cons_zero, List.set_cons_succ]
      refine wpAnyH_done (by kernel_rfl) ?_ _
      refine NoPanic.normal ?_
      have hWX := Lib.hid (bnext hW45d.out hB51.out)
      clear hS0 hS1 hS2 hS3 hcvA hcv1
      by_cases heq : encM ⟨kind, from_, to_, gg, node, try_, low, code, ticket, told, ops⟩ = bs
      case neg =>
        have hE : Hid (¬ G) := Lib.hid (fun g => heq (hGMM.out g).2)
        rw [show (encM ⟨kind, from_, to_, gg, node, try_, low, code, ticket, told, ops⟩ == bs) = false by simpa using heq]
        have hbz := block_below hWX.out h0.out
        obtain ⟨x0, x1, x2, x3, x4, x5, x6, x7, x8, x9, x10⟩ := msg_cells hbz
        obtain ⟨f0, f1, f2, f3, f4, f5, f6, f7, f8, f9, f10⟩ := msg_free hbz
        obtain ⟨WZ10, hch_, hzA10_, hKz⟩ := msg_stored hbz (.int .i64 0) (.int .i64 0) (.int .i64 0) (.int .i64 0) (.int .i64 0) (.int .i64 0) (.int .i64 0) (.int .i64 0) (.int .i64 0) (.slice none 0 0) (.slice none 0 0)
        have hCH := Lib.hid hch_
        have hzA10H := Lib.hid hzA10_
        clear hch_ hzA10_
        have hKZ := Lib.hid hKz
        have hE9 := Lib.hid (kept_below (bnext hB0.out hWX.out) hKz (by rintro _ rfl; exact Nat.le_refl _))
        have hbz2 := Lib.hid hbz
        clear hKz hbz
        go_wp2_with fail
        have hbz := hbz2.out
        clear x0 f0 x1 f1 x2 f2 x3 f3 x4 f4 x5 f5 x6 f6 x7 f7 x8 f8 x9 f9 x10 f10
        rw [hCH.out]
        have hzA10 := hzA10H.out
        obtain ⟨c0, c1, c2, c3, c4, c5, c6, c7, c8, c9, c10⟩ := msg_cells hzA10
        clear hbz hzA10
        go_wp2_with fail
        refine bodyPost_ret (v := .tuple #[zeroV, .bool false]) ?_ rfl (.inr ⟨hE.out, rfl, hE9.out⟩)
        simp [results, Tryz.results80, go_sem, zeroV, *]
      have hGf : G := by
        apply Classical.byContradiction
        intro g
        exact hN.out g ⟨kind, from_, to_, gg, node, try_, low, code, ticket, told, ops⟩ hmt ⟨hMR.out.nums.2.2.2.2.2.2.2.2, hMR.out.toldok, hMR.out.opsok⟩ heq
      rw [show (encM ⟨kind, from_, to_, gg, node, try_, low, code, ticket, told, ops⟩ == bs) = true by simpa using heq]
      clear heq hmt
      have hEQ : Hid (⟨kind, from_, to_, gg, node, try_, low, code, ticket, told, ops⟩ = (⟨mk, mf, mt, mg, mn, my, ml, mc, mtk, mtold, mops⟩ : PMsg)) := Lib.hid (by rw [hg0.out hGf, hg1.out hGf, hg2.out hGf, hg3.out hGf, hg4.out hGf, hg5.out hGf, hg6.out hGf, hg7.out hGf, hg8b.out hGf, hTG.out hGf, hopsG.out hGf])
      have yy0 : w51.cell? ⟨q, 0, none⟩ = some (.int .i64 kind) := cell_below hB51.out y0
      have yy1 : w51.cell? ⟨q, 1, none⟩ = some (.int .i64 from_) := cell_below hB51.out y1
      have yy2 : w51.cell? ⟨q, 2, none⟩ = some (.int .i64 to_) := cell_below hB51.out y2
      have yy3 : w51.cell? ⟨q, 3, none⟩ = some (.int .i64 gg) := cell_below hB51.out y3
      have yy4 : w51.cell? ⟨q, 4, none⟩ = some (.int .i64 node) := cell_below hB51.out y4
      have yy5 : w51.cell? ⟨q, 5, none⟩ = some (.int .i64 try_) := cell_below hB51.out y5
      have yy6 : w51.cell? ⟨q, 6, none⟩ = some (.int .i64 low) := cell_below hB51.out y6
      have yy7 : w51.cell? ⟨q, 7, none⟩ = some (.int .i64 code) := cell_below hB51.out y7
      have yy8 : w51.cell? ⟨q, 8, none⟩ = some (.int .i64 ticket) := cell_below hB51.out y8
      have yy9 : w51.cell? ⟨q, 9, none⟩ = some (.slice Atv told.length ctv) := cell_below hB51.out y9
      have yy10 : w51.cell? ⟨q, 10, none⟩ = some (.slice A42 ops.length c42) := cell_below hB51.out y10
      clear y0 y1 y2 y3 y4 y5 y6 y7 y8 y9 y10
      have hbz := block_below hWX.out h0.out
      obtain ⟨x0, x1, x2, x3, x4, x5, x6, x7, x8, x9, x10⟩ := msg_cells hbz
      obtain ⟨f0, f1, f2, f3, f4, f5, f6, f7, f8, f9, f10⟩ := msg_free hbz
      obtain ⟨WZ10, hch_, hzA10_, hKz⟩ := msg_stored hbz (.int .i64 kind) (.int .i64 from_) (.int .i64 to_) (.int .i64 gg) (.int .i64 node) (.int .i64 try_) (.int .i64 low) (.int .i64 code) (.int .i64 ticket) (.slice Atv told.length ctv) (.slice A42 ops.length c42)
      have hCH := Lib.hid hch_
      have hzA10H := Lib.hid hzA10_
      clear hch_ hzA10_
      have hKZ := Lib.hid hKz
      have hE9 := Lib.hid (kept_below (bnext hB0.out hWX.out) hKz (by rintro _ rfl; exact Nat.le_refl _))
      have hbz2 := Lib.hid hbz
      clear hKz hbz
      go_wp2_with fail
      have hbz := hbz2.out
      clear x0 f0 x1 f1 x2 f2 x3 f3 x4 f4 x5 f5 x6 f6 x7 f7 x8 f8 x9 f9 x10 f10
      rw [hCH.out]
      have hzA10 := hzA10H.out
      obtain ⟨c0, c1, c2, c3, c4, c5, c6, c7, c8, c9, c10⟩ := msg_cells hzA10
      clear hbz hzA10
      go_wp2_with fail
      refine bodyPost_ret (v := .tuple #[.agg (msgA ⟨kind, from_, to_, gg, node, try_, low, code, ticket, told, ops⟩ Atv ctv A42 c42), .bool true]) ?_ rfl ?_
      · simp [results, Tryz.results80, go_sem, msgA, *]
      · rw [← hEQ.out]
        refine .inl ⟨hGf, Atv, ctv, A42, c42, rfl, ⟨RowAt.of_own (own_kept (own_below hT45.out (bnext (Below.refl _ W45).drew hB51.out)) hKZ.out (by rintro j hj rfl; have := hr0.out; omega)) rfl, RowAt.of_own (own_kept (own_below hO45.out (bnext (Below.refl _ W45).drew hB51.out)) hKZ.out (by rintro j hj rfl; have := h41.out; have := hr0.out; omega)) rfl, by show told.length ≤ _; omega, by show ops.length ≤ _; omega, hMR.out.keys, hMR.out.toldok, hMR.out.opsok, hMR.out.nums⟩, ⟨fun ad ha => ?_, fun ad hb => ?_⟩, hE9.out⟩
        · have := own_ge hT45.out ad.block (by rw [ha]; rfl)
          have := hr0.out
          omega
        · have := own_ge hO45.out ad.block (by rw [hb]; rfl)
          have := h41.out
          have := hr0.out
          omega
    have dk : decide (k < kk) = true := by simpa using hlt
    by_cases h9 : k < 9
    case neg =>
      have dk2 : decide (k < 9) = false := by simpa using h9
      have dk3 : decide ((k : Int) < 9) = false := decide_eq_false (by omega)
      have hE0 : Hid (¬ G) := Lib.hid (fun g => by have h1 := hKG.out g; omega)
      have hI9 : Hid (RdAt G wr p (strB (opsB mops) ++ [])) := Lib.hid (by
        obtain ⟨A9, c9, bs9, k9, er, bad, hC9, hg9⟩ := hI.out
        exact ⟨A9, c9, bs9, k9, er, bad, hC9, fun g => absurd g hE0.out⟩)
      have hTG : Hid (G → told = mtold) := Lib.hid (fun g => absurd g hE0.out)
      clear hI_ hO_ hB_ hQ_ htok_ htg_ hlt
      go_wp2_with fail
      subst hkl
      have hO9 := hO
      refine (rStr_any G (opsB mops) [] 400 p _ hI9.out (fun g => opsB_len400 (hF.out g).ops) (by omega)).mono ?_
      rintro e w40 ⟨str, rfl, hstr, hstrg, hI40_, hK40_⟩
      obtain ⟨sb, hsb⟩ : ∃ sb : ByteArray, (⟨str.toArray⟩ : ByteArray) = sb := ⟨_, rfl⟩
      have hsz : sb.size ≤ 400 := by rw [← hsb]; show str.toArray.size ≤ 400; simpa using hstr
      have hsd : Hid (G → sb.data.toList = opsB mops) := Lib.hid (fun g => by rw [← hsb, hstrg g])
      have hI40 := Lib.hid hI40_
      have hQ40 := Lib.hid ((hK40_.block q (lt_of_block hQ.out) (by omega)).trans hQ.out)
      have hB40 := Lib.hid (kept_below hB.out hK40_ (by rintro _ rfl; omega))
      have hO40 := Lib.hid (own_kept hO.out hK40_ (by rintro j hj rfl; omega))
      rw [hsb]
      clear hI40_ hK40_ hI9 hI hQ hB hO hO9 hsb hstr hstrg
      go_wp2_with (refine list_of_wp rfl ?_; refine wp_conv_SB (.tmp 77) sb (by omega) rfl rfl ?_; intro A41 c41 w41 hR41_ hB41_)
      have hR41 := Lib.hid hR41_
      have hB41 := Lib.hid hB41_
      have h41 : Hid (q < w41.heap.size) := Lib.hid (lt_of_block (block_below hB41_ hQ40.out))
      clear hR41_ hB41_
      go_wp2_with fail
      refine (ropsDec_any G mops _ _ _ hR41.out (by simp; omega) (fun g => by
        have hck := checkO_len (hF.out g).ops
        exact ⟨hsd.out g, Nat.le_trans hck.1 (by decide), fun o ho => ⟨(hOK.out g).2.2 o ho, by unfold goodO; rw [(hck.2 o ho).1, (hck.2 o ho).2]; rfl, key_le (hck.2 o ho).2⟩⟩)).mono ?_
      rintro e w42 ⟨A42, c42, ops, x42, rfl, hO42_, hol, hops_, hopsg_, hB42_⟩
      have hops := Lib.hid hops_
      have hopsg := Lib.hid hopsg_
      have hO42 := Lib.hid hO42_
      have hB42 := Lib.hid (bnext hB41.out hB42_)
      have hQ42 := Lib.hid (block_below hB42.out hQ40.out)
      have hI42 := Lib.hid (hI40.out.later hB42.out)
      have hW42 := Lib.hid (hB40.out.trans (hB42.out.mono hB40.out.size))
      have hT42 := Lib.hid (own_below hO40.out hB42.out)
      clear hO42_ hB42_ hR41 hB41 hO40 hB42 hQ40 hI40 hB40 hops_ hopsg_
      go_wp2_with fail
      refine (rEnd_any G p _ hI42.out).mono ?_
      rintro e w43 ⟨xE, rfl, hxEg, hK43_⟩
      have hXE := Lib.hid hxEg
      have hQ43 := Lib.hid ((hK43_.block q (lt_of_block hQ42.out) (by omega)).trans hQ42.out)
      have hW43 := Lib.hid (kept_below hW42.out hK43_ (by rintro _ rfl; omega))
      have hT43 := Lib.hid (own_kept hT42.out hK43_ (by rintro j hj rfl; omega))
      have hO43 := Lib.hid (own_kept hO42.out hK43_ (by rintro j hj rfl; have := h41.out; omega))
      clear hK43_ hxEg hI42 hQ42 hW42 hT42 hO42
      by_cases hz : xE ≠ 0
      case pos =>
        have dz : (xE != 0) = true := by simpa using hz
        have hE : Hid (¬ G) := Lib.hid (fun g => hz (hXE.out g))
        clear hz
        have hbz := block_below hW43.out h0.out
        obtain ⟨x0, x1, x2, x3, x4, x5, x6, x7, x8, x9, x10⟩ := msg_cells hbz
        obtain ⟨f0, f1, f2, f3, f4, f5, f6, f7, f8, f9, f10⟩ := msg_free hbz
        obtain ⟨WZ10, hch_, hzA10_, hKz⟩ := msg_stored hbz (.int .i64 0) (.int .i64 0) (.int .i64 0) (.int .i64 0) (.int .i64 0) (.int .i64 0) (.int .i64 0) (.int .i64 0) (.int .i64 0) (.slice none 0 0) (.slice none 0 0)
        have hCH := Lib.hid hch_
        have hzA10H := Lib.hid hzA10_
        clear hch_ hzA10_
        have hKZ := Lib.hid hKz
        have hE9 := Lib.hid (kept_below (bnext hB0.out hW43.out) hKz (by rintro _ rfl; exact Nat.le_refl _))
        have hbz2 := Lib.hid hbz
        clear hKz hbz
        go_wp2_with fail
        have hbz := hbz2.out
        clear x0 f0 x1 f1 x2 f2 x3 f3 x4 f4 x5 f5 x6 f6 x7 f7 x8 f8 x9 f9 x10 f10
        rw [hCH.out]
        have hzA10 := hzA10H.out
        obtain ⟨c0, c1, c2, c3, c4, c5, c6, c7, c8, c9, c10⟩ := msg_cells hzA10
        clear hbz hzA10
        go_wp2_with fail
        refine bodyPost_ret (v := .tuple #[zeroV, .bool false]) ?_ rfl (.inr ⟨hE.out, rfl, hE9.out⟩)
        simp [results, Tryz.results80, go_sem, zeroV, *]
      have hz0 : xE = 0 := by simpa using hz
      subst hz0
      clear hz
      by_cases hz : x42 ≠ 0
      case pos =>
        have dz : (x42 != 0) = true := by simpa using hz
        have hE : Hid (¬ G) := Lib.hid (fun g => hz (hopsg.out g).1)
        clear hz
        have hbz := block_below hW43.out h0.out
        obtain ⟨x0, x1, x2, x3, x4, x5, x6, x7, x8, x9, x10⟩ := msg_cells hbz
        obtain ⟨f0, f1, f2, f3, f4, f5, f6, f7, f8, f9, f10⟩ := msg_free hbz
        obtain ⟨WZ10, hch_, hzA10_, hKz⟩ := msg_stored hbz (.int .i64 0) (.int .i64 0) (.int .i64 0) (.int .i64 0) (.int .i64 0) (.int .i64 0) (.int .i64 0) (.int .i64 0) (.int .i64 0) (.slice none 0 0) (.slice none 0 0)
        have hCH := Lib.hid hch_
        have hzA10H := Lib.hid hzA10_
        clear hch_ hzA10_
        have hKZ := Lib.hid hKz
        have hE9 := Lib.hid (kept_below (bnext hB0.out hW43.out) hKz (by rintro _ rfl; exact Nat.le_refl _))
        have hbz2 := Lib.hid hbz
        clear hKz hbz
        go_wp2_with fail
        have hbz := hbz2.out
        clear x0 f0 x1 f1 x2 f2 x3 f3 x4 f4 x5 f5 x6 f6 x7 f7 x8 f8 x9 f9 x10 f10
        rw [hCH.out]
        have hzA10 := hzA10H.out
        obtain ⟨c0, c1, c2, c3, c4, c5, c6, c7, c8, c9, c10⟩ := msg_cells hzA10
        clear hbz hzA10
        go_wp2_with fail
        refine bodyPost_ret (v := .tuple #[zeroV, .bool false]) ?_ rfl (.inr ⟨hE.out, rfl, hE9.out⟩)
        simp [results, Tryz.results80, go_sem, zeroV, *]
      have hz0 : x42 = 0 := by simpa using hz
      subst hz0
      clear hz
      by_cases hz : 8 < kk
      case pos =>
        have dz : decide ((8 : Int) < kk) = true := decide_eq_true (by omega)
        have dz2 : decide (8 < kk) = true := decide_eq_true hz
        have hE : Hid (¬ G) := Lib.hid (fun g => by have := hKG.out g; omega)
        clear hz
        have hbz := block_below hW43.out h0.out
        obtain ⟨x0, x1, x2, x3, x4, x5, x6, x7, x8, x9, x10⟩ := msg_cells hbz
        obtain ⟨f0, f1, f2, f3, f4, f5, f6, f7, f8, f9, f10⟩ := msg_free hbz
        obtain ⟨WZ10, hch_, hzA10_, hKz⟩ := msg_stored hbz (.int .i64 0) (.int .i64 0) (.int .i64 0) (.int .i64 0) (.int .i64 0) (.int .i64 0) (.int .i64 0) (.int .i64 0) (.int .i64 0) (.slice none 0 0) (.slice none 0 0)
        have hCH := Lib.hid hch_
        have hzA10H := Lib.hid hzA10_
        clear hch_ hzA10_
        have hKZ := Lib.hid hKz
        have hE9 := Lib.hid (kept_below (bnext hB0.out hW43.out) hKz (by rintro _ rfl; exact Nat.le_refl _))
        have hbz2 := Lib.hid hbz
        clear hKz hbz
        go_wp2_with fail
        have hbz := hbz2.out
        clear x0 f0 x1 f1 x2 f2 x3 f3 x4 f4 x5 f5 x6 f6 x7 f7 x8 f8 x9 f9 x10 f10
        rw [hCH.out]
        have hzA10 := hzA10H.out
        obtain ⟨c0, c1, c2, c3, c4, c5, c6, c7, c8, c9, c10⟩ := msg_cells hzA10
        clear hbz hzA10
        go_wp2_with fail
        refine bodyPost_ret (v := .tuple #[zeroV, .bool false]) ?_ rfl (.inr ⟨hE.out, rfl, hE9.out⟩)
        simp [results, Tryz.results80, go_sem, zeroV, *]
      exfalso
      have h8 := of_decide_eq_true dk
      omega
    have dk2 : decide (k < 9) = true := by simpa using h9
    have dk3 : decide ((k : Int) < 9) = true := decide_eq_true (by omega)
    obtain ⟨y, hy⟩ : ∃ y : Int, G → mtold[k]? = some y := by
      by_cases g : G
      · have h1 := hKG.out g
        exact ⟨mtold[k]'(by omega), fun _ => List.getElem?_eq_getElem _⟩
      · exact ⟨0, fun g' => absurd g' g⟩
    have hY := Lib.hid hy
    have hIx : Hid (RdAt G wr p (numB y ++ (((mtold.drop (k + 1)).map numB).flatten ++ (strB (opsB mops) ++ [])))) := Lib.hid (by
      obtain ⟨A9, c9, bs9, k9, er, bad, hC9, hg9⟩ := hI.out
      refine ⟨A9, c9, bs9, k9, er, bad, hC9, fun g => ⟨(hg9 g).1, ?_⟩⟩
      obtain ⟨h2, h3⟩ := List.getElem?_eq_some_iff.1 (hy g)
      rw [(hg9 g).2, List.drop_eq_getElem_cons h2, h3, List.map_cons, List.flatten_cons, List.append_assoc])
    have hyok : Hid (G → i64ok y) := Lib.hid (fun g => (hOK.out g).2.1 y (List.mem_of_getElem? (hy g)))
    have hc : wr.cell? ⟨q, 9, none⟩ = some (.slice Atv k ctv) := by rw [block_cell hQ_]; rfl
    have hf : wr.frozen? ⟨q, 9, none⟩ = false := block_free hQ_ 9
    have hql := lt_of_block hQ_
    have hID : Hid (RdAt G wr.drew p _) := Lib.hid (hIx.out.later (Below.refl _ _).drew)
    have hOD : Hid (wr.drew.ownsRow (q + 1) 2 1 (.slice Atv k ctv) k (i64s told)) := Lib.hid hO_
    have hqd : Hid (q < wr.drew.heap.size) := Lib.hid hql
    have hqp : Hid (q ≠ p) := Lib.hid (by omega)
    have hne : Hid (some q ≠ (Value.slice Atv k ctv).ownBlock) := Lib.hid (fun h => by have := own_ge hO_ _ h.symm; omega)
    clear hI_ hO_ hB_ hQ_ htok_ htg_ hkl hy
    go_wp2_with fail
    go_region_law (first
        | (go_simp; go_at_call 115; refine (rNum_any G y _ p _ hID.out hyok.out).mono ?_; rintro e w33 ⟨x, rfl, hx33_, hxg33_, hI33_, hK33_⟩; have hX33 := Lib.hid (And.intro hx33_ hxg33_); have hI33 := Lib.hid hI33_; have hK33 := Lib.hid hK33_; have hc33 : w33.cell? ⟨q, 9, none⟩ = some (.slice Atv k ctv) := (World.cell?_of_block (hK33_.block q hqd.out hqp.out)).trans hc; have hf33 : w33.frozen? ⟨q, 9, none⟩ = false := (World.frozen?_of_block (hK33_.block q hqd.out hqp.out)).trans hf; have hcA : (w33.alloc (.cells #[.int .i64 x] 2)).cell? ⟨q, 9, none⟩ = some (.slice Atv k ctv) := cell_below (below_alloc (Below.refl _ _) _) hc33; clear hI33_ hK33_ hx33_ hxg33_)
        | (refine step_of_wp rfl ?_; refine wp_append_row _ _ 28 rfl (q + 1) 2 _ 1 8 Tryz.underlying28 Tryz.infoI64 rfl (by decide) (by decide) (.slice Atv k ctv) k (i64s told) rfl (own_below (own_kept hOD.out hK33.out (by rintro j hj rfl; omega)) (below_alloc (Below.refl _ _) _)) (some ⟨w33.heap.size, 0, none⟩) 1 1 [.int .i64 x] rfl (fun h => by cases h) (Nat.le_refl _) rfl (RowAt.made rfl) (by simp [Value.oneCell']) (by omega) (by have := hK33.out.size; rw [World.size_alloc]; show q + 1 ≤ _; have : wr.heap.size ≤ w33.heap.size := this; omega) ?_; intro v9 w9 hO9_ hG9_ _; obtain ⟨A9, c9, rfl⟩ := own_slice hO9_; have hO9 := Lib.hid hO9_; have hG9 := Lib.hid hG9_; have hb9 := hG9_.block q (by rw [World.size_alloc]; have := hK33.out.size; have := hqd.out; omega) hne.out; have hc9 : w9.cell? ⟨q, 9, none⟩ = some (.slice Atv k ctv) := (World.cell?_of_block hb9).trans hcA; have hf9 : w9.frozen? ⟨q, 9, none⟩ = false := (World.frozen?_of_block hb9).trans ((World.frozen?_of_block ((below_alloc (Below.refl _ _) _).block q (by have := hK33.out.size; have := hqd.out; omega))).trans hf33); clear hO9_ hG9_ hb9))
    all_goals
      have hK33' : Kept (· = p) wr w33 := ⟨hK33.out.os, hK33.out.tape, hK33.out.output, hK33.out.size, hK33.out.block⟩
      have hAL := below_alloc (Below.refl _ w33) (.cells #[.int .i64 x] 2)
      have hBA : Below W0.heap.size W0 (w33.alloc (.cells #[.int .i64 x] 2)) := (kept_below hB.out hK33' (by rintro _ rfl; omega)).trans (hAL.mono (Nat.le_trans hB.out.size hK33'.size))
      have hB9 : Below W0.heap.size W0 w9 := hBA.grown hG9.out hBA.size (fun j hj => by have := own_ge hO.out j hj; omega)
      have hqA : q < (w33.alloc (.cells #[.int .i64 x] 2)).heap.size := by rw [World.size_alloc]; have := hK33'.size; omega
      have hI9 := (hI33.out.later hAL).kept (Kept.of_grown' hG9.out) (fun j hj => by have := own_ge hO.out j hj; omega)
      have hQ9 := (hG9.out.block q hqA hne.out).trans ((hAL.block q (by have := hK33'.size; omega)).trans ((hK33'.block q hql hqp.out).trans hQ.out))
      have s9 := Lib.hid (op_step (w := W0) 9 (.slice A9 (k + 1) c9) hI9 hQ9 hB9 hpq hwq)
      have o9 := Lib.hid (own_move (w1 := w9.setCell ⟨q, 9, none⟩ (.slice A9 (k + 1) c9)) hO9.out fun j hj => Below.heap_setCell _ _ _ _ (by have := own_ge hO9.out j hj; show j ≠ q; omega))
      clear hK33' hAL hBA hB9 hqA hI9 hQ9 hcA hc33 hf33 hc9 hf9 hK33 hI33 hG9 hc hf
      go_wp2_with fail
      go_roundw
      case rel => exact ⟨k + 1, told ++ [x], by omega, by go_num, by simp [hKL.out], fun z hz => (List.mem_append.1 hz).elim (htok.out z) (fun h => by simp at h; subst h; exact hX33.out.1), _, s9.out.2.1, by rw [show i64s (told ++ [x]) = i64s told ++ [.int .i64 x] by simp [i64s]]; exact o9.out, s9.out.1, fun g => by
        obtain ⟨h2, h3⟩ := List.getElem?_eq_some_iff.1 (hY.out g)
        rw [List.take_succ_eq_append_getElem h2, h3, htg.out g, hX33.out.2 g], s9.out.2.2⟩
      case measure => simp [intOf]; omega
end Go.Proofs.YteeiacfddjhhkaaGreatDoor
