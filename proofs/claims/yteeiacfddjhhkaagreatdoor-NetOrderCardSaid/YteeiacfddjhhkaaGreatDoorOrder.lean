/- byroadlaw20.NetOrder, walked: true, and old memory is as it was. -/
import Derived.Test.YteeiacfddjhhkaaGreatDoorCut
import Derived.Test.YteeiacfddjhhkaaGreatDoorSame
import Derived.Test.YteeiacfddjhhkaaGreatDoorAwake
namespace Go.Proofs.YteeiacfddjhhkaaGreatDoor
open Go.RowKit
set_option maxRecDepth 100000

def pkOf (x : MV) : PK := ⟨encM x.m, siteM x.m, 0⟩
/-- Between two rounds: the net has what was sent and not delivered. -/
structure OrdInv (W wr : World) (p : Nat) (S : List MV) (got : Nat) (s : Value) : Prop where
  net : NetAt wr p 1024 ((S.drop got).map pkOf)
  own : wr.ownsRow W.heap.size 31 11 s S.length (mvsC S)
  msg : ∀ x ∈ S, MsgF wr W.heap.size x ∧ mayM x.m = true
  below : Below W.heap.size W wr
  got : got ≤ S.length
theorem OrdInv.later {W wr w' : World} {p : Nat} {S : List MV} {got : Nat} {s : Value} (h : OrdInv W wr p S got s) (hb : Below wr.heap.size wr w') : OrdInv W w' p S got s :=
  ⟨h.net.later hb, own_below h.own hb, fun x hx => ⟨(h.msg x hx).1.below hb, (h.msg x hx).2⟩, bnext h.below hb, h.got⟩
theorem mvsC_len (l : List MV) : (mvsC l).length = l.length * 11 := by
  induction l with
  | nil => rfl
  | cons x r ih =>
    show (mvC x ++ mvsC r).length = _
    rw [List.length_append, ih, mvC_len, List.length_cons]
    omega
theorem mvsC_snoc (l : List MV) (x : MV) : mvsC (l ++ [x]) = mvsC l ++ mvC x := by simp [mvsC]
theorem Tryz.infoRM : (Tryz.prog.info? 31).map (fun i => (i.zero, i.size, i.bytes)) = some (some (.agg #[.int .i64 0, .int .i64 0, .int .i64 0, .int .i64 0, .int .i64 0, .int .i64 0, .int .i64 0, .int .i64 0, .int .i64 0, .slice none 0 0, .slice none 0 0]), 11, 120) := by kernel_rfl
theorem mvC_one (x : MV) : ∀ u ∈ mvC x, u.oneCell' = true := by
  intro u hu
  simp only [mvC, msgA, List.mem_cons, List.not_mem_nil, or_false] at hu
  rcases hu with rfl | rfl | rfl | rfl | rfl | rfl | rfl | rfl | rfl | rfl | rfl <;> rfl
theorem OrdInv.store {W wr w2 w3 : World} {p : Nat} {S : List MV} {got q : Nat} {s : Value} {cur : Array Value} {fr : Nat × Nat} (h : OrdInv W wr p S got s) (hb : Below wr.heap.size wr w2) (hk : Kept (· = q) w2 w3) (hq : q = wr.heap.size) (hq2 : w2.heap[q]? = some (.cells cur 31 fr)) : OrdInv W w3 p S got s := by
  have h2 := h.later hb
  have hkM : Kept (MS w2 W.heap.size) w2 w3 := hk.mono (fun k e => by subst e; exact ⟨by rw [hq]; exact h.below.size, cur, _, fr, hq2, .inr (.inr (.inl rfl))⟩)
  refine ⟨h2.net.keptS hk (fun q' o e ho => ?_), own_move h2.own fun q' hq' => hk.block q' ((h2.own.lt q' hq').2) (fun e => ?_), fun x hx => ⟨(h2.msg x hx).1.kept hkM, (h2.msg x hx).2⟩, KeptM_below h2.below hkM, h.got⟩
  · subst e
    rw [hq2] at ho
    cases ho
    exact ⟨_, _, _, rfl, by decide, by decide, by decide⟩
  · have := (h.own.lt q' hq').2
    omega
theorem OrdInv.sent {W w5 w6 : World} {p : Nat} {S : List MV} {got : Nat} {s : Value} (h : OrdInv W w5 p S got s) (hp : W.heap.size ≤ p) (hK : Kept (NS w5 p) w5 w6) :
    w6.ownsRow W.heap.size 31 11 s S.length (mvsC S) ∧ (∀ x ∈ S, MsgF w6 W.heap.size x ∧ mayM x.m = true) ∧ Below W.heap.size W w6 :=
  ⟨own_keptN h.own hK (by decide), fun x hx => ⟨(h.msg x hx).1.kept (KeptM_of_N hp hK), (h.msg x hx).2⟩, KeptM_below h.below (KeptM_of_N hp hK)⟩
theorem OrdInv.pushed {W w7 w9 : World} {p : Nat} {S : List MV} {got : Nat} {s : Value} {A9 : Option Addr} {d9 : Nat} {x' : MV} (net7 : NetAt w7 p 1024 ((S.drop got).map pkOf ++ [pkOf x'])) (own7 : w7.ownsRow W.heap.size 31 11 s S.length (mvsC S)) (msg7 : ∀ x ∈ S, MsgF w7 W.heap.size x ∧ mayM x.m = true)
    (hx : MsgF w7 W.heap.size x' ∧ mayM x'.m = true) (hB7 : Below W.heap.size W w7) (hgot : got ≤ S.length) (hO9 : w9.ownsRow W.heap.size 31 11 (.slice A9 (S.length + 1) d9) (S.length + 1) (mvsC S ++ mvC x')) (hG : w7.grownBy w9 s.ownBlock) :
    OrdInv W w9 p (S ++ [x']) got (.slice A9 (S ++ [x']).length d9) := by
  have hkS : Kept (fun q => s.ownBlock = some q) w7 w9 := ⟨hG.os, hG.tape, hG.output, hG.size, fun q hq hn => hG.block q hq (fun e => hn e.symm)⟩
  have hkM : Kept (MS w7 W.heap.size) w7 w9 := hkS.mono (fun q e => by
    obtain ⟨cur, hc⟩ := own_type own7 e
    exact ⟨own_ge own7 q e, cur, _, _, hc, .inr (.inr (.inl rfl))⟩)
  have hlen : (S ++ [x']).length = S.length + 1 := by simp
  refine ⟨?_, by rw [hlen, mvsC_snoc]; exact hO9, fun x hx' => ?_, KeptM_below hB7 hkM, by omega⟩
  · rw [List.drop_append_of_le_length hgot, List.map_append]
    exact net7.keptS hkS (fun q o e ho => by
      obtain ⟨cur, hc⟩ := own_type own7 e
      rw [hc] at ho
      cases ho
      exact ⟨_, _, _, rfl, by decide, by decide, by decide⟩)
  · rcases List.mem_append.1 hx' with h | h
    · exact ⟨(msg7 x h).1.kept hkM, (msg7 x h).2⟩
    · simp at h
      subst h
      exact ⟨hx.1.kept hkM, hx.2⟩
theorem send_may {ks : List PK} {x : MV} (h : mayM x.m = true) (hk : ks.length < 1000) : sendN 1024 ks ([x].map (·.m)) = ks ++ [pkOf x] := by
  show send1 1024 ks x.m = _
  unfold send1
  rw [if_pos ⟨h, by omega⟩]
  rfl
theorem send_not {ks : List PK} {x : MV} (h : mayM x.m = false) : sendN 1024 ks ([x].map (·.m)) = ks := by
  show send1 1024 ks x.m = _
  unfold send1
  rw [if_neg (by rw [h]; simp)]
set_option maxHeartbeats 8000000 in
theorem NetOrder_walk (l : List MV) (L : Option Addr) (cl : Nat) (bys : List Int) (Bv : Option Addr) (cb : Nat) (W : World) (hG : GOk W) (hr : RowAt W L (mvsC l)) (hl : l.length ≤ maxLen) (hm : ∀ x ∈ l, InM W x) (hby : RowAt W Bv (i64s bys)) (hbl : bys.length ≤ maxLen) (hbo : ∀ n ∈ bys, i64ok n) :
    Calls Tryz.prog 3 #[.slice L l.length cl, .slice Bv bys.length cb] W fun e w' => e = .returned (.bool true) ∧ Below W.heap.size W w' := by
  have hH := Lib.hid (And.intro hG (And.intro hr (And.intro hm (And.intro hby hbo))))
  unfold maxLen at hl hbl
  clear hG hr hm hby hbo
  go_enter Tryz.func3, Tryz.ntmps3
  go_wp2_with fail
  refine (new_any 1024 _ (by decide)).mono ?_
  rintro e w0 ⟨p, rfl, hN_, hp_, hB_⟩
  have hI0 : Hid (OrdInv W w0 p [] 0 (.slice none 0 0)) := Lib.hid ⟨hN_, own_nil _ _ _ _, fun x hx => by simp at hx, hB_, by simp⟩
  have hp := Lib.hid hp_
  clear hN_ hB_ hp_
  go_wp2_with fail
  go_loopw [7, 8, 21] (fun s g i wr => ∃ (k : Nat) (S : List MV) (got : Nat), k ≤ l.length ∧ i = .int .i64 k ∧ g = .int .i64 got ∧ S.length ≤ k ∧ k ≤ 40 ∧ OrdInv W wr p S got s) (fun _ _ i _ => l.length - (intOf i).toNat)
  case atStart => exact ⟨0, [], 0, by omega, rfl, rfl, by simp, by omega, hI0.out⟩
  case round =>
    obtain ⟨k, S, got, hk, rfl, rfl, hSk, hk40, hI_⟩ := hrel
    have hI := Lib.hid hI_
    have hgot := hI_.got
    obtain ⟨As, cs, rfl⟩ := own_slice hI_.own
    clear hI_
    by_cases hlt : k < l.length
    · obtain ⟨x, hx⟩ : ∃ x, l[k]? = some x := ⟨_, List.getElem?_eq_getElem hlt⟩
      obtain ⟨ad, rfl, c0, c1, c2, c3, c4, c5, c6, c7, c8, c9, c10⟩ := mvs_at (hH.out.2.1.below hI.out.below) hx
      have hxm := hH.out.2.2.1 x (List.mem_of_getElem? hx)
      have hXM := Lib.hid hxm
      have hB1 := Lib.hid (below_alloc (Below.refl _ wr) (.cells #[.int .i64 x.m.kind, .int .i64 x.m.from_, .int .i64 x.m.to_, .int .i64 x.m.g, .int .i64 x.m.node, .int .i64 x.m.try_, .int .i64 x.m.low, .int .i64 x.m.code, .int .i64 x.m.ticket, .slice x.A x.m.told.length x.c, .slice x.B x.m.ops.length x.d] 31))
      have hb1 := heap_alloc_new wr (.cells #[.int .i64 x.m.kind, .int .i64 x.m.from_, .int .i64 x.m.to_, .int .i64 x.m.g, .int .i64 x.m.node, .int .i64 x.m.try_, .int .i64 x.m.low, .int .i64 x.m.code, .int .i64 x.m.ticket, .slice x.A x.m.told.length x.c, .slice x.B x.m.ops.length x.d] 31)
      have hHb1 := Lib.hid hb1
      clear hxm hx
      by_cases h40 : 40 ≤ k
      · have d40 : decide ((40 : Int) ≤ k) = true := by simp; omega
        have hI1 := Lib.hid (hI.out.later hB1.out)
        have hn : (((S.drop got).map pkOf).length : Int) = S.length - got := by simp; omega
        go_wp2_with fail
        generalize wr.alloc (.cells #[.int .i64 x.m.kind, .int .i64 x.m.from_, .int .i64 x.m.to_, .int .i64 x.m.g, .int .i64 x.m.node, .int .i64 x.m.try_, .int .i64 x.m.low, .int .i64 x.m.code, .int .i64 x.m.ticket, .slice x.A x.m.told.length x.c, .slice x.B x.m.ops.length x.d] 31) = W1 at *
        refine (Len_net p 1024 _ _ (hI1.out).net).mono ?_
        rintro e wz ⟨rfl, rfl⟩
        rw [hn]
        go_wp2_with fail
        refine (awake_any _ (hH.out.1.below (hI1.out).below)).mono ?_
        rintro e wy ⟨rfl, hBy_⟩
        have hBy := Lib.hid (bnext (hI1.out).below hBy_)
        clear hBy_
        go_wp2_with fail
        go_ret
        exact ⟨rfl, hBy.out⟩
      · have d40 : decide ((40 : Int) ≤ k) = false := by simp; omega
        have hCut := Lib.hid (fun w hB => Cut_any x W w hXM.out hB)
        have hSk2 : S.length ≤ 40 := by omega
        go_wp2_with fail
        generalize wr.alloc (.cells #[.int .i64 x.m.kind, .int .i64 x.m.from_, .int .i64 x.m.to_, .int .i64 x.m.g, .int .i64 x.m.node, .int .i64 x.m.try_, .int .i64 x.m.low, .int .i64 x.m.code, .int .i64 x.m.ticket, .slice x.A x.m.told.length x.c, .slice x.B x.m.ops.length x.d] 31) = W1 at *
        refine (hCut.out W1 (bnext hI.out.below hB1.out)).mono ?_
        rintro e w2 ⟨B', d', rfl, hF_, hB_⟩
        obtain ⟨m', hm'⟩ : ∃ m', m' = cutM x.m := ⟨_, rfl⟩
        rw [← hm'] at hF_ ⊢
        simp only [msgA]
        have hF := Lib.hid hF_
        have hB2 := Lib.hid (bnext hB1.out hB_)
        have hb := block_below hB_ hb1
        have hb2 := Lib.hid hb
        have x0 : w2.cell? ⟨wr.heap.size, 0, none⟩ = some (.int .i64 x.m.kind) := by rw [block_cell hb]; rfl
        have f0 : w2.frozen? ⟨wr.heap.size, 0, none⟩ = false := block_free hb 0
        have x1 : w2.cell? ⟨wr.heap.size, 1, none⟩ = some (.int .i64 x.m.from_) := by rw [block_cell hb]; rfl
        have f1 : w2.frozen? ⟨wr.heap.size, 1, none⟩ = false := block_free hb 1
        have x2 : w2.cell? ⟨wr.heap.size, 2, none⟩ = some (.int .i64 x.m.to_) := by rw [block_cell hb]; rfl
        have f2 : w2.frozen? ⟨wr.heap.size, 2, none⟩ = false := block_free hb 2
        have x3 : w2.cell? ⟨wr.heap.size, 3, none⟩ = some (.int .i64 x.m.g) := by rw [block_cell hb]; rfl
        have f3 : w2.frozen? ⟨wr.heap.size, 3, none⟩ = false := block_free hb 3
        have x4 : w2.cell? ⟨wr.heap.size, 4, none⟩ = some (.int .i64 x.m.node) := by rw [block_cell hb]; rfl
        have f4 : w2.frozen? ⟨wr.heap.size, 4, none⟩ = false := block_free hb 4
        have x5 : w2.cell? ⟨wr.heap.size, 5, none⟩ = some (.int .i64 x.m.try_) := by rw [block_cell hb]; rfl
        have f5 : w2.frozen? ⟨wr.heap.size, 5, none⟩ = false := block_free hb 5
        have x6 : w2.cell? ⟨wr.heap.size, 6, none⟩ = some (.int .i64 x.m.low) := by rw [block_cell hb]; rfl
        have f6 : w2.frozen? ⟨wr.heap.size, 6, none⟩ = false := block_free hb 6
        have x7 : w2.cell? ⟨wr.heap.size, 7, none⟩ = some (.int .i64 x.m.code) := by rw [block_cell hb]; rfl
        have f7 : w2.frozen? ⟨wr.heap.size, 7, none⟩ = false := block_free hb 7
        have x8 : w2.cell? ⟨wr.heap.size, 8, none⟩ = some (.int .i64 x.m.ticket) := by rw [block_cell hb]; rfl
        have f8 : w2.frozen? ⟨wr.heap.size, 8, none⟩ = false := block_free hb 8
        have x9 : w2.cell? ⟨wr.heap.size, 9, none⟩ = some (.slice x.A x.m.told.length x.c) := by rw [block_cell hb]; rfl
        have f9 : w2.frozen? ⟨wr.heap.size, 9, none⟩ = false := block_free hb 9
        have x10 : w2.cell? ⟨wr.heap.size, 10, none⟩ = some (.slice x.B x.m.ops.length x.d) := by rw [block_cell hb]; rfl
        have f10 : w2.frozen? ⟨wr.heap.size, 10, none⟩ = false := block_free hb 10
        have hKq : Hid (Kept (· = wr.heap.size) w2 (((((((((((w2.setCell ⟨wr.heap.size, 0, none⟩ (.int .i64 m'.kind)).setCell ⟨wr.heap.size, 1, none⟩ (.int .i64 m'.from_)).setCell ⟨wr.heap.size, 2, none⟩ (.int .i64 m'.to_)).setCell ⟨wr.heap.size, 3, none⟩ (.int .i64 m'.g)).setCell ⟨wr.heap.size, 4, none⟩ (.int .i64 m'.node)).setCell ⟨wr.heap.size, 5, none⟩ (.int .i64 m'.try_)).setCell ⟨wr.heap.size, 6, none⟩ (.int .i64 m'.low)).setCell ⟨wr.heap.size, 7, none⟩ (.int .i64 m'.code)).setCell ⟨wr.heap.size, 8, none⟩ (.int .i64 m'.ticket)).setCell ⟨wr.heap.size, 9, none⟩ (.slice x.A m'.told.length x.c)).setCell ⟨wr.heap.size, 10, none⟩ (.slice B' m'.ops.length d'))) := Lib.hid (Kept.setCell (S := (· = wr.heap.size)) (p := ⟨wr.heap.size, 10, none⟩) (Kept.setCell (S := (· = wr.heap.size)) (p := ⟨wr.heap.size, 9, none⟩) (Kept.setCell (S := (· = wr.heap.size)) (p := ⟨wr.heap.size, 8, none⟩) (Kept.setCell (S := (· = wr.heap.size)) (p := ⟨wr.heap.size, 7, none⟩) (Kept.setCell (S := (· = wr.heap.size)) (p := ⟨wr.heap.size, 6, none⟩) (Kept.setCell (S := (· = wr.heap.size)) (p := ⟨wr.heap.size, 5, none⟩) (Kept.setCell (S := (· = wr.heap.size)) (p := ⟨wr.heap.size, 4, none⟩) (Kept.setCell (S := (· = wr.heap.size)) (p := ⟨wr.heap.size, 3, none⟩) (Kept.setCell (S := (· = wr.heap.size)) (p := ⟨wr.heap.size, 2, none⟩) (Kept.setCell (S := (· = wr.heap.size)) (p := ⟨wr.heap.size, 1, none⟩) (Kept.setCell (S := (· = wr.heap.size)) (p := ⟨wr.heap.size, 0, none⟩) (Kept.refl (· = wr.heap.size) w2) (.inl rfl) (.int .i64 m'.kind)) (.inl rfl) (.int .i64 m'.from_)) (.inl rfl) (.int .i64 m'.to_)) (.inl rfl) (.int .i64 m'.g)) (.inl rfl) (.int .i64 m'.node)) (.inl rfl) (.int .i64 m'.try_)) (.inl rfl) (.int .i64 m'.low)) (.inl rfl) (.int .i64 m'.code)) (.inl rfl) (.int .i64 m'.ticket)) (.inl rfl) (.slice x.A m'.told.length x.c)) (.inl rfl) (.slice B' m'.ops.length d'))
        clear hF_ hB_ hm' hb hb1 c0 c1 c2 c3 c4 c5 c6 c7 c8 c9 c10
        go_wp2_with fail
        have hb := hb2.out
        clear x0 f0 x1 f1 x2 f2 x3 f3 x4 f4 x5 f5 x6 f6 x7 f7 x8 f8 x9 f9 x10 f10

        have hs0 : (w2.setCell ⟨wr.heap.size, 0, none⟩ (.int .i64 m'.kind)).heap[wr.heap.size]? = some (.cells #[.int .i64 m'.kind, .int .i64 x.m.from_, .int .i64 x.m.to_, .int .i64 x.m.g, .int .i64 x.m.node, .int .i64 x.m.try_, .int .i64 x.m.low, .int .i64 x.m.code, .int .i64 x.m.ticket, .slice x.A x.m.told.length x.c, .slice x.B x.m.ops.length x.d] 31 (0, 0)) := block_setCell hb 0 _
        generalize w2.setCell ⟨wr.heap.size, 0, none⟩ (.int .i64 m'.kind) = w2_1 at *
        have hs1 : (w2_1.setCell ⟨wr.heap.size, 1, none⟩ (.int .i64 m'.from_)).heap[wr.heap.size]? = some (.cells #[.int .i64 m'.kind, .int .i64 m'.from_, .int .i64 x.m.to_, .int .i64 x.m.g, .int .i64 x.m.node, .int .i64 x.m.try_, .int .i64 x.m.low, .int .i64 x.m.code, .int .i64 x.m.ticket, .slice x.A x.m.told.length x.c, .slice x.B x.m.ops.length x.d] 31 (0, 0)) := block_setCell hs0 1 _
        generalize w2_1.setCell ⟨wr.heap.size, 1, none⟩ (.int .i64 m'.from_) = w2_2 at *
        have hs2 : (w2_2.setCell ⟨wr.heap.size, 2, none⟩ (.int .i64 m'.to_)).heap[wr.heap.size]? = some (.cells #[.int .i64 m'.kind, .int .i64 m'.from_, .int .i64 m'.to_, .int .i64 x.m.g, .int .i64 x.m.node, .int .i64 x.m.try_, .int .i64 x.m.low, .int .i64 x.m.code, .int .i64 x.m.ticket, .slice x.A x.m.told.length x.c, .slice x.B x.m.ops.length x.d] 31 (0, 0)) := block_setCell hs1 2 _
        generalize w2_2.setCell ⟨wr.heap.size, 2, none⟩ (.int .i64 m'.to_) = w2_3 at *
        have hs3 : (w2_3.setCell ⟨wr.heap.size, 3, none⟩ (.int .i64 m'.g)).heap[wr.heap.size]? = some (.cells #[.int .i64 m'.kind, .int .i64 m'.from_, .int .i64 m'.to_, .int .i64 m'.g, .int .i64 x.m.node, .int .i64 x.m.try_, .int .i64 x.m.low, .int .i64 x.m.code, .int .i64 x.m.ticket, .slice x.A x.m.told.length x.c, .slice x.B x.m.ops.length x.d] 31 (0, 0)) := block_setCell hs2 3 _
        generalize w2_3.setCell ⟨wr.heap.size, 3, none⟩ (.int .i64 m'.g) = w2_4 at *
        have hs4 : (w2_4.setCell ⟨wr.heap.size, 4, none⟩ (.int .i64 m'.node)).heap[wr.heap.size]? = some (.cells #[.int .i64 m'.kind, .int .i64 m'.from_, .int .i64 m'.to_, .int .i64 m'.g, .int .i64 m'.node, .int .i64 x.m.try_, .int .i64 x.m.low, .int .i64 x.m.code, .int .i64 x.m.ticket, .slice x.A x.m.told.length x.c, .slice x.B x.m.ops.length x.d] 31 (0, 0)) := block_setCell hs3 4 _
        generalize w2_4.setCell ⟨wr.heap.size, 4, none⟩ (.int .i64 m'.node) = w2_5 at *
        have hs5 : (w2_5.setCell ⟨wr.heap.size, 5, none⟩ (.int .i64 m'.try_)).heap[wr.heap.size]? = some (.cells #[.int .i64 m'.kind, .int .i64 m'.from_, .int .i64 m'.to_, .int .i64 m'.g, .int .i64 m'.node, .int .i64 m'.try_, .int .i64 x.m.low, .int .i64 x.m.code, .int .i64 x.m.ticket, .slice x.A x.m.told.length x.c, .slice x.B x.m.ops.length x.d] 31 (0, 0)) := block_setCell hs4 5 _
        generalize w2_5.setCell ⟨wr.heap.size, 5, none⟩ (.int .i64 m'.try_) = w2_6 at *
        have hs6 : (w2_6.setCell ⟨wr.heap.size, 6, none⟩ (.int .i64 m'.low)).heap[wr.heap.size]? = some (.cells #[.int .i64 m'.kind, .int .i64 m'.from_, .int .i64 m'.to_, .int .i64 m'.g, .int .i64 m'.node, .int .i64 m'.try_, .int .i64 m'.low, .int .i64 x.m.code, .int .i64 x.m.ticket, .slice x.A x.m.told.length x.c, .slice x.B x.m.ops.length x.d] 31 (0, 0)) := block_setCell hs5 6 _
        generalize w2_6.setCell ⟨wr.heap.size, 6, none⟩ (.int .i64 m'.low) = w2_7 at *
        have hs7 : (w2_7.setCell ⟨wr.heap.size, 7, none⟩ (.int .i64 m'.code)).heap[wr.heap.size]? = some (.cells #[.int .i64 m'.kind, .int .i64 m'.from_, .int .i64 m'.to_, .int .i64 m'.g, .int .i64 m'.node, .int .i64 m'.try_, .int .i64 m'.low, .int .i64 m'.code, .int .i64 x.m.ticket, .slice x.A x.m.told.length x.c, .slice x.B x.m.ops.length x.d] 31 (0, 0)) := block_setCell hs6 7 _
        generalize w2_7.setCell ⟨wr.heap.size, 7, none⟩ (.int .i64 m'.code) = w2_8 at *
        have hs8 : (w2_8.setCell ⟨wr.heap.size, 8, none⟩ (.int .i64 m'.ticket)).heap[wr.heap.size]? = some (.cells #[.int .i64 m'.kind, .int .i64 m'.from_, .int .i64 m'.to_, .int .i64 m'.g, .int .i64 m'.node, .int .i64 m'.try_, .int .i64 m'.low, .int .i64 m'.code, .int .i64 m'.ticket, .slice x.A x.m.told.length x.c, .slice x.B x.m.ops.length x.d] 31 (0, 0)) := block_setCell hs7 8 _
        generalize w2_8.setCell ⟨wr.heap.size, 8, none⟩ (.int .i64 m'.ticket) = w2_9 at *
        have hs9 : (w2_9.setCell ⟨wr.heap.size, 9, none⟩ (.slice x.A m'.told.length x.c)).heap[wr.heap.size]? = some (.cells #[.int .i64 m'.kind, .int .i64 m'.from_, .int .i64 m'.to_, .int .i64 m'.g, .int .i64 m'.node, .int .i64 m'.try_, .int .i64 m'.low, .int .i64 m'.code, .int .i64 m'.ticket, .slice x.A m'.told.length x.c, .slice x.B x.m.ops.length x.d] 31 (0, 0)) := block_setCell hs8 9 _
        generalize w2_9.setCell ⟨wr.heap.size, 9, none⟩ (.slice x.A m'.told.length x.c) = w2_10 at *
        have hs10 : (w2_10.setCell ⟨wr.heap.size, 10, none⟩ (.slice B' m'.ops.length d')).heap[wr.heap.size]? = some (.cells #[.int .i64 m'.kind, .int .i64 m'.from_, .int .i64 m'.to_, .int .i64 m'.g, .int .i64 m'.node, .int .i64 m'.try_, .int .i64 m'.low, .int .i64 m'.code, .int .i64 m'.ticket, .slice x.A m'.told.length x.c, .slice B' m'.ops.length d'] 31 (0, 0)) := block_setCell hs9 10 _
        generalize w2_10.setCell ⟨wr.heap.size, 10, none⟩ (.slice B' m'.ops.length d') = w2F at *
        have hWF := Lib.hid hs10
        clear hs0 hs1 hs2 hs3 hs4 hs5 hs6 hs7 hs8 hs9 hs10 hb
        have hI3 := Lib.hid (hI.out.store hB2.out hKq.out rfl hb2.out)
        have hF3 := Lib.hid (hF.out.kept (hKq.out.mono (fun k e => by subst e; exact ⟨hI.out.below.size, _, _, _, hb2.out, .inr (.inr (.inl rfl))⟩)))
        refine (Ours_any m' x.A x.c B' d' w2F).mono ?_
        rintro e w4 ⟨rfl, hB_⟩
        simp only [msgA]
        have hI4 := Lib.hid (hI3.out.later hB_)
        have hF4 := Lib.hid (hF3.out.below hB_)
        have hb4 := Lib.hid (block_below hB_ hWF.out)
        clear hB_
        go_wp2_with fail
        have hrow := Lib.hid (show RowAt (w4.alloc (.cells #[.int .i64 m'.kind, .int .i64 m'.from_, .int .i64 m'.to_, .int .i64 m'.g, .int .i64 m'.node, .int .i64 m'.try_, .int .i64 m'.low, .int .i64 m'.code, .int .i64 m'.ticket, .slice x.A m'.told.length x.c, .slice B' m'.ops.length d'] 37)) (some ⟨w4.heap.size, 0, none⟩) (mvsC [⟨m', x.A, x.c, B', d'⟩]) from RowAt.made rfl)
        have hb5 := Lib.hid (heap_alloc_new w4 (.cells #[.int .i64 m'.kind, .int .i64 m'.from_, .int .i64 m'.to_, .int .i64 m'.g, .int .i64 m'.node, .int .i64 m'.try_, .int .i64 m'.low, .int .i64 m'.code, .int .i64 m'.ticket, .slice x.A m'.told.length x.c, .slice B' m'.ops.length d'] 37))
        have hBa := below_alloc (Below.refl _ w4) (.cells #[.int .i64 m'.kind, .int .i64 m'.from_, .int .i64 m'.to_, .int .i64 m'.g, .int .i64 m'.node, .int .i64 m'.try_, .int .i64 m'.low, .int .i64 m'.code, .int .i64 m'.ticket, .slice x.A m'.told.length x.c, .slice B' m'.ops.length d'] 37)
        have hI5 := Lib.hid (hI4.out.later hBa)
        have hF5 := Lib.hid (hF4.out.below hBa)
        have hb4b := Lib.hid (block_below hBa hb4.out)
        clear hBa
        generalize w4.alloc (.cells #[.int .i64 m'.kind, .int .i64 m'.from_, .int .i64 m'.to_, .int .i64 m'.g, .int .i64 m'.node, .int .i64 m'.try_, .int .i64 m'.low, .int .i64 m'.code, .int .i64 m'.ticket, .slice x.A m'.told.length x.c, .slice B' m'.ops.length d'] 37) = w5 at *
        have hks : ((S.drop got).map pkOf).length ≤ 40 := by simp; omega
        have hS := Send_any p 1024 ((S.drop got).map pkOf) [⟨m', x.A, x.c, B', d'⟩] (some ⟨w4.heap.size, 0, none⟩) 1 w5 (hH.out.1.below hI5.out.below) hI5.out.net hrow.out
          (fun ad h => by
            cases h
            rintro ⟨_, cur, T, fr, hb, hT⟩
            rw [hb5.out] at hb
            simp only [Option.some.injEq, Obj.cells.injEq] at hb
            obtain ⟨_, rfl, _⟩ := hb
            simp at hT)
          (fun y hy => by
            simp only [List.mem_cons, List.not_mem_nil, or_false] at hy
            subst hy
            exact ⟨hF5.out.r, hF5.out.fa.notNS (Nat.le_of_lt hp.out), hF5.out.fb.notNS (Nat.le_of_lt hp.out)⟩) (by simp; omega)
        cases hmay : mayM m'
        · rw [send_not (x := ⟨m', x.A, x.c, B', d'⟩) hmay, Int.sub_self] at hS
          have hSH := Lib.hid hS
          clear hS hmay
          refine hSH.out.mono ?_
          rintro e w6 ⟨rfl, hN_, hK_⟩
          obtain ⟨o1, o2, o3⟩ := hI5.out.sent (Nat.le_of_lt hp.out) hK_
          have hI6 : Hid (OrdInv W w6 p S got (.slice As S.length cs)) := Lib.hid ⟨hN_, o1, o2, o3, hgot⟩
          clear hN_ hK_ o1 o2 o3
          have hgx : got ≤ S.length := hgot
          have hSx : S.length ≤ k + 1 := by omega
          by_cases hbk : k < bys.length
          · obtain ⟨ab, rfl, hcb⟩ := i64s_at (hH.out.2.2.2.1.below hI6.out.below) hbk
            generalize bys[k] = bv at hcb
            go_wp2_with fail
            · exact ⟨⟨k + 1, S, got, by omega, by go_num, rfl, by omega, by omega, hI6.out⟩, by simp [intOf]; omega⟩
            by_cases hgt : got < S.length
            · obtain ⟨y, hy⟩ : ∃ y, S[got]? = some y := ⟨_, List.getElem?_eq_getElem hgt⟩
              have hmsg := hI6.out.msg y (List.mem_of_getElem? hy)
              have hnt := hI6.out.net
              rw [List.drop_eq_getElem_cons hgt, List.map_cons, show S[got] = y from Option.some.inj ((List.getElem?_eq_getElem hgt).symm.trans hy)] at hnt
              have hD := Lib.hid (Deliver_good p 1024 (pkOf y :: (S.drop (got + 1)).map pkOf) 0 (pkOf y) y.m w6 (hH.out.1.below hI6.out.below) hnt rfl rfl (by simp; omega) rfl hmsg.2 ⟨hmsg.1.r.nums.2.2.2.2.2.2.2.2, hmsg.1.r.toldok, hmsg.1.r.opsok⟩)
              have hYM := Lib.hid hy
              clear hnt hmsg hy
              refine hD.out.mono ?_
              rintro e w10 ⟨A9', c9, B9, e9, rfl, hM_, _, hN_, hK_⟩
              simp only [msgA]
              obtain ⟨o1, o2, o3⟩ := hI6.out.sent (Nat.le_of_lt hp.out) hK_
              have hI10 : Hid (OrdInv W w10 p S (got + 1) (.slice As S.length cs)) := Lib.hid ⟨hN_, o1, o2, o3, hgt⟩
              have hBa := below_alloc (Below.refl _ w10) (.cells #[.int .i64 y.m.kind, .int .i64 y.m.from_, .int .i64 y.m.to_, .int .i64 y.m.g, .int .i64 y.m.node, .int .i64 y.m.try_, .int .i64 y.m.low, .int .i64 y.m.code, .int .i64 y.m.ticket, .slice A9' y.m.told.length c9, .slice B9 y.m.ops.length e9] 37)
              have hI11 := Lib.hid (hI10.out.later hBa)
              have hM11 := Lib.hid (hM_.below hBa)
              have hb11 := heap_alloc_new w10 (.cells #[.int .i64 y.m.kind, .int .i64 y.m.from_, .int .i64 y.m.to_, .int .i64 y.m.g, .int .i64 y.m.node, .int .i64 y.m.try_, .int .i64 y.m.low, .int .i64 y.m.code, .int .i64 y.m.ticket, .slice A9' y.m.told.length c9, .slice B9 y.m.ops.length e9] 37)
              clear hM_ hN_ hK_ o1 o2 o3 hD hBa
              have dg : decide ((S.length : Int) ≤ got) = false := by simp; omega
              go_wp2_with fail
              generalize w10.alloc (.cells #[.int .i64 y.m.kind, .int .i64 y.m.from_, .int .i64 y.m.to_, .int .i64 y.m.g, .int .i64 y.m.node, .int .i64 y.m.try_, .int .i64 y.m.low, .int .i64 y.m.code, .int .i64 y.m.ticket, .slice A9' y.m.told.length c9, .slice B9 y.m.ops.length e9] 37) = w11 at *
              obtain ⟨gs, hgs⟩ : ∃ gs, As = some ⟨gs, 0, none⟩ := by
                rcases hI11.out.own.2 with ⟨_, h'⟩ | ⟨g', cap', cur, h', _⟩
                · omega
                · cases h'; exact ⟨g', rfl⟩
              subst hgs
              have hSf : Hid (∀ V : World, Below w11.heap.size w11 V → V.cell? ⟨w10.heap.size, 0, none⟩ = some (.int .i64 y.m.kind) ∧ V.cell? ⟨w10.heap.size, 1, none⟩ = some (.int .i64 y.m.from_) ∧ V.cell? ⟨w10.heap.size, 2, none⟩ = some (.int .i64 y.m.to_) ∧ V.cell? ⟨w10.heap.size, 3, none⟩ = some (.int .i64 y.m.g) ∧ V.cell? ⟨w10.heap.size, 4, none⟩ = some (.int .i64 y.m.node) ∧ V.cell? ⟨w10.heap.size, 5, none⟩ = some (.int .i64 y.m.try_) ∧ V.cell? ⟨w10.heap.size, 6, none⟩ = some (.int .i64 y.m.low) ∧ V.cell? ⟨w10.heap.size, 7, none⟩ = some (.int .i64 y.m.code) ∧ V.cell? ⟨w10.heap.size, 8, none⟩ = some (.int .i64 y.m.ticket) ∧ V.cell? ⟨w10.heap.size, 9, none⟩ = some (.slice A9' y.m.told.length c9) ∧ V.cell? ⟨w10.heap.size, 10, none⟩ = some (.slice B9 y.m.ops.length e9) ∧ V.cell? ⟨gs, got * 11, none⟩ = some (.int .i64 y.m.kind) ∧ V.cell? ⟨gs, got * 11 + 1, none⟩ = some (.int .i64 y.m.from_) ∧ V.cell? ⟨gs, got * 11 + 2, none⟩ = some (.int .i64 y.m.to_) ∧ V.cell? ⟨gs, got * 11 + 3, none⟩ = some (.int .i64 y.m.g) ∧ V.cell? ⟨gs, got * 11 + 4, none⟩ = some (.int .i64 y.m.node) ∧ V.cell? ⟨gs, got * 11 + 5, none⟩ = some (.int .i64 y.m.try_) ∧ V.cell? ⟨gs, got * 11 + 6, none⟩ = some (.int .i64 y.m.low) ∧ V.cell? ⟨gs, got * 11 + 7, none⟩ = some (.int .i64 y.m.code) ∧ V.cell? ⟨gs, got * 11 + 8, none⟩ = some (.int .i64 y.m.ticket) ∧ V.cell? ⟨gs, got * 11 + 9, none⟩ = some (.slice y.A y.m.told.length y.c) ∧ V.cell? ⟨gs, got * 11 + 10, none⟩ = some (.slice y.B y.m.ops.length y.d)) := Lib.hid (fun V hb => by
                have e1 := block_below hb hb11
                have e2 := own_below hI11.out.own hb
                have e3 : ∀ j, j < 11 → V.cell? ⟨gs, got * 11 + j, none⟩ = (mvC y)[j]? := fun j hj => by
                  rw [e2.cellAt _ (by omega)]
                  exact mvsC_get S got y j hYM.out hj
                exact ⟨by rw [block_cell e1]; rfl, by rw [block_cell e1]; rfl, by rw [block_cell e1]; rfl, by rw [block_cell e1]; rfl, by rw [block_cell e1]; rfl, by rw [block_cell e1]; rfl, by rw [block_cell e1]; rfl, by rw [block_cell e1]; rfl, by rw [block_cell e1]; rfl, by rw [block_cell e1]; rfl, by rw [block_cell e1]; rfl, e3 0 (by omega), e3 1 (by omega), e3 2 (by omega), e3 3 (by omega), e3 4 (by omega), e3 5 (by omega), e3 6 (by omega), e3 7 (by omega), e3 8 (by omega), e3 9 (by omega), e3 10 (by omega)⟩)
              obtain ⟨s0, s1, s2, s3, s4, s5, s6, s7, s8, s9, s10, s11, s12, s13, s14, s15, s16, s17, s18, s19, s20, s21⟩ := hSf.out w11 (Below.refl _ _)
              have hBd := Lib.hid (Below.refl w11.heap.size w11).drew
              have hMSG := Lib.hid (hI6.out.msg y (List.mem_of_getElem? hYM.out))
              have hYR : Hid (MsgR w11 y.m y.A y.c y.B y.d) := Lib.hid (hI11.out.msg y (List.mem_of_getElem? hYM.out)).1.r
              go_region_held3 (fun V => V.cell? ⟨w10.heap.size, 0, none⟩ = some (.int .i64 y.m.kind) ∧ V.cell? ⟨w10.heap.size, 1, none⟩ = some (.int .i64 y.m.from_) ∧ V.cell? ⟨w10.heap.size, 2, none⟩ = some (.int .i64 y.m.to_) ∧ V.cell? ⟨w10.heap.size, 3, none⟩ = some (.int .i64 y.m.g) ∧ V.cell? ⟨w10.heap.size, 4, none⟩ = some (.int .i64 y.m.node) ∧ V.cell? ⟨w10.heap.size, 5, none⟩ = some (.int .i64 y.m.try_) ∧ V.cell? ⟨w10.heap.size, 6, none⟩ = some (.int .i64 y.m.low) ∧ V.cell? ⟨w10.heap.size, 7, none⟩ = some (.int .i64 y.m.code) ∧ V.cell? ⟨w10.heap.size, 8, none⟩ = some (.int .i64 y.m.ticket) ∧ V.cell? ⟨w10.heap.size, 9, none⟩ = some (.slice A9' y.m.told.length c9) ∧ V.cell? ⟨w10.heap.size, 10, none⟩ = some (.slice B9 y.m.ops.length e9) ∧ V.cell? ⟨gs, got * 11, none⟩ = some (.int .i64 y.m.kind) ∧ V.cell? ⟨gs, got * 11 + 1, none⟩ = some (.int .i64 y.m.from_) ∧ V.cell? ⟨gs, got * 11 + 2, none⟩ = some (.int .i64 y.m.to_) ∧ V.cell? ⟨gs, got * 11 + 3, none⟩ = some (.int .i64 y.m.g) ∧ V.cell? ⟨gs, got * 11 + 4, none⟩ = some (.int .i64 y.m.node) ∧ V.cell? ⟨gs, got * 11 + 5, none⟩ = some (.int .i64 y.m.try_) ∧ V.cell? ⟨gs, got * 11 + 6, none⟩ = some (.int .i64 y.m.low) ∧ V.cell? ⟨gs, got * 11 + 7, none⟩ = some (.int .i64 y.m.code) ∧ V.cell? ⟨gs, got * 11 + 8, none⟩ = some (.int .i64 y.m.ticket) ∧ V.cell? ⟨gs, got * 11 + 9, none⟩ = some (.slice y.A y.m.told.length y.c) ∧ V.cell? ⟨gs, got * 11 + 10, none⟩ = some (.slice y.B y.m.ops.length y.d))
                (first | exact hSf.out _ hB12.out | exact hSf.out _ hB13.out | exact hSf.out _ hBd.out | go_keep)
                ((first
                  | (go_at_call 13; refine (Plain_any y.m A9' c9 B9 e9 _).mono ?_; rintro e w12 ⟨rfl, hB_⟩; simp only [msgA]; have hB12 := Lib.hid (bnext hBd.out hB_); clear hB_)
                  | (go_at_call 12; refine (Same_any y.m A9' c9 B9 e9 y.m y.A y.c y.B y.d _ (hM11.out.below hB12.out) (hYR.out.below hB12.out)).mono ?_; rintro e w13 ⟨b, rfl, hbt, hB_⟩; obtain rfl : b = true := hbt.2 rfl; have hB13 := Lib.hid (bnext hB12.out hB_); clear hB_ hbt)))
              all_goals
                clear s0 s1 s2 s3 s4 s5 s6 s7 s8 s9 s10 s11 s12 s13 s14 s15 s16 s17 s18 s19 s20 s21
                go_wp2_with fail
                go_roundw
                case rel => exact ⟨k + 1, S, got + 1, by omega, by go_num, by go_num, by omega, by omega, hI11.out.later hB13.out⟩
                case measure => simp [intOf]; omega
            · have hnt := hI6.out.net
              rw [List.drop_of_length_le (by omega), List.map_nil] at hnt
              have hD := Lib.hid (Deliver_none p 1024 [] 0 w6 (hH.out.1.below hI6.out.below) hnt (.inr (by simp)))
              clear hnt
              refine hD.out.mono ?_
              rintro e w10 ⟨rfl, hB_⟩
              simp only [zeroV]
              have hI10 := Lib.hid (hI6.out.later hB_)
              have hBa := below_alloc (Below.refl _ w10) (.cells #[.int .i64 0, .int .i64 0, .int .i64 0, .int .i64 0, .int .i64 0, .int .i64 0, .int .i64 0, .int .i64 0, .int .i64 0, .slice none 0 0, .slice none 0 0] 37)
              have hI11 := Lib.hid (hI10.out.later hBa)
              clear hB_ hD hBa
              have dg : decide ((S.length : Int) ≤ got) = true := by simp; omega
              have dle : S.length ≤ got := by omega
              go_wp2_with fail
              exact ⟨⟨k + 1, S, got, by omega, by go_num, rfl, by omega, by omega, hI11.out⟩, by simp [intOf]; omega⟩
          · go_wp2_with fail
            by_cases hgt : got < S.length
            · obtain ⟨y, hy⟩ : ∃ y, S[got]? = some y := ⟨_, List.getElem?_eq_getElem hgt⟩
              have hmsg := hI6.out.msg y (List.mem_of_getElem? hy)
              have hnt := hI6.out.net
              rw [List.drop_eq_getElem_cons hgt, List.map_cons, show S[got] = y from Option.some.inj ((List.getElem?_eq_getElem hgt).symm.trans hy)] at hnt
              have hD := Lib.hid (Deliver_good p 1024 (pkOf y :: (S.drop (got + 1)).map pkOf) 0 (pkOf y) y.m w6 (hH.out.1.below hI6.out.below) hnt rfl rfl (by simp; omega) rfl hmsg.2 ⟨hmsg.1.r.nums.2.2.2.2.2.2.2.2, hmsg.1.r.toldok, hmsg.1.r.opsok⟩)
              have hYM := Lib.hid hy
              clear hnt hmsg hy
              refine hD.out.mono ?_
              rintro e w10 ⟨A9', c9, B9, e9, rfl, hM_, _, hN_, hK_⟩
              simp only [msgA]
              obtain ⟨o1, o2, o3⟩ := hI6.out.sent (Nat.le_of_lt hp.out) hK_
              have hI10 : Hid (OrdInv W w10 p S (got + 1) (.slice As S.length cs)) := Lib.hid ⟨hN_, o1, o2, o3, hgt⟩
              have hBa := below_alloc (Below.refl _ w10) (.cells #[.int .i64 y.m.kind, .int .i64 y.m.from_, .int .i64 y.m.to_, .int .i64 y.m.g, .int .i64 y.m.node, .int .i64 y.m.try_, .int .i64 y.m.low, .int .i64 y.m.code, .int .i64 y.m.ticket, .slice A9' y.m.told.length c9, .slice B9 y.m.ops.length e9] 37)
              have hI11 := Lib.hid (hI10.out.later hBa)
              have hM11 := Lib.hid (hM_.below hBa)
              have hb11 := heap_alloc_new w10 (.cells #[.int .i64 y.m.kind, .int .i64 y.m.from_, .int .i64 y.m.to_, .int .i64 y.m.g, .int .i64 y.m.node, .int .i64 y.m.try_, .int .i64 y.m.low, .int .i64 y.m.code, .int .i64 y.m.ticket, .slice A9' y.m.told.length c9, .slice B9 y.m.ops.length e9] 37)
              clear hM_ hN_ hK_ o1 o2 o3 hD hBa
              have dg : decide ((S.length : Int) ≤ got) = false := by simp; omega
              go_wp2_with fail
              generalize w10.alloc (.cells #[.int .i64 y.m.kind, .int .i64 y.m.from_, .int .i64 y.m.to_, .int .i64 y.m.g, .int .i64 y.m.node, .int .i64 y.m.try_, .int .i64 y.m.low, .int .i64 y.m.code, .int .i64 y.m.ticket, .slice A9' y.m.told.length c9, .slice B9 y.m.ops.length e9] 37) = w11 at *
              obtain ⟨gs, hgs⟩ : ∃ gs, As = some ⟨gs, 0, none⟩ := by
                rcases hI11.out.own.2 with ⟨_, h'⟩ | ⟨g', cap', cur, h', _⟩
                · omega
                · cases h'; exact ⟨g', rfl⟩
              subst hgs
              have hSf : Hid (∀ V : World, Below w11.heap.size w11 V → V.cell? ⟨w10.heap.size, 0, none⟩ = some (.int .i64 y.m.kind) ∧ V.cell? ⟨w10.heap.size, 1, none⟩ = some (.int .i64 y.m.from_) ∧ V.cell? ⟨w10.heap.size, 2, none⟩ = some (.int .i64 y.m.to_) ∧ V.cell? ⟨w10.heap.size, 3, none⟩ = some (.int .i64 y.m.g) ∧ V.cell? ⟨w10.heap.size, 4, none⟩ = some (.int .i64 y.m.node) ∧ V.cell? ⟨w10.heap.size, 5, none⟩ = some (.int .i64 y.m.try_) ∧ V.cell? ⟨w10.heap.size, 6, none⟩ = some (.int .i64 y.m.low) ∧ V.cell? ⟨w10.heap.size, 7, none⟩ = some (.int .i64 y.m.code) ∧ V.cell? ⟨w10.heap.size, 8, none⟩ = some (.int .i64 y.m.ticket) ∧ V.cell? ⟨w10.heap.size, 9, none⟩ = some (.slice A9' y.m.told.length c9) ∧ V.cell? ⟨w10.heap.size, 10, none⟩ = some (.slice B9 y.m.ops.length e9) ∧ V.cell? ⟨gs, got * 11, none⟩ = some (.int .i64 y.m.kind) ∧ V.cell? ⟨gs, got * 11 + 1, none⟩ = some (.int .i64 y.m.from_) ∧ V.cell? ⟨gs, got * 11 + 2, none⟩ = some (.int .i64 y.m.to_) ∧ V.cell? ⟨gs, got * 11 + 3, none⟩ = some (.int .i64 y.m.g) ∧ V.cell? ⟨gs, got * 11 + 4, none⟩ = some (.int .i64 y.m.node) ∧ V.cell? ⟨gs, got * 11 + 5, none⟩ = some (.int .i64 y.m.try_) ∧ V.cell? ⟨gs, got * 11 + 6, none⟩ = some (.int .i64 y.m.low) ∧ V.cell? ⟨gs, got * 11 + 7, none⟩ = some (.int .i64 y.m.code) ∧ V.cell? ⟨gs, got * 11 + 8, none⟩ = some (.int .i64 y.m.ticket) ∧ V.cell? ⟨gs, got * 11 + 9, none⟩ = some (.slice y.A y.m.told.length y.c) ∧ V.cell? ⟨gs, got * 11 + 10, none⟩ = some (.slice y.B y.m.ops.length y.d)) := Lib.hid (fun V hb => by
                have e1 := block_below hb hb11
                have e2 := own_below hI11.out.own hb
                have e3 : ∀ j, j < 11 → V.cell? ⟨gs, got * 11 + j, none⟩ = (mvC y)[j]? := fun j hj => by
                  rw [e2.cellAt _ (by omega)]
                  exact mvsC_get S got y j hYM.out hj
                exact ⟨by rw [block_cell e1]; rfl, by rw [block_cell e1]; rfl, by rw [block_cell e1]; rfl, by rw [block_cell e1]; rfl, by rw [block_cell e1]; rfl, by rw [block_cell e1]; rfl, by rw [block_cell e1]; rfl, by rw [block_cell e1]; rfl, by rw [block_cell e1]; rfl, by rw [block_cell e1]; rfl, by rw [block_cell e1]; rfl, e3 0 (by omega), e3 1 (by omega), e3 2 (by omega), e3 3 (by omega), e3 4 (by omega), e3 5 (by omega), e3 6 (by omega), e3 7 (by omega), e3 8 (by omega), e3 9 (by omega), e3 10 (by omega)⟩)
              obtain ⟨s0, s1, s2, s3, s4, s5, s6, s7, s8, s9, s10, s11, s12, s13, s14, s15, s16, s17, s18, s19, s20, s21⟩ := hSf.out w11 (Below.refl _ _)
              have hBd := Lib.hid (Below.refl w11.heap.size w11).drew
              have hMSG := Lib.hid (hI6.out.msg y (List.mem_of_getElem? hYM.out))
              have hYR : Hid (MsgR w11 y.m y.A y.c y.B y.d) := Lib.hid (hI11.out.msg y (List.mem_of_getElem? hYM.out)).1.r
              go_region_held3 (fun V => V.cell? ⟨w10.heap.size, 0, none⟩ = some (.int .i64 y.m.kind) ∧ V.cell? ⟨w10.heap.size, 1, none⟩ = some (.int .i64 y.m.from_) ∧ V.cell? ⟨w10.heap.size, 2, none⟩ = some (.int .i64 y.m.to_) ∧ V.cell? ⟨w10.heap.size, 3, none⟩ = some (.int .i64 y.m.g) ∧ V.cell? ⟨w10.heap.size, 4, none⟩ = some (.int .i64 y.m.node) ∧ V.cell? ⟨w10.heap.size, 5, none⟩ = some (.int .i64 y.m.try_) ∧ V.cell? ⟨w10.heap.size, 6, none⟩ = some (.int .i64 y.m.low) ∧ V.cell? ⟨w10.heap.size, 7, none⟩ = some (.int .i64 y.m.code) ∧ V.cell? ⟨w10.heap.size, 8, none⟩ = some (.int .i64 y.m.ticket) ∧ V.cell? ⟨w10.heap.size, 9, none⟩ = some (.slice A9' y.m.told.length c9) ∧ V.cell? ⟨w10.heap.size, 10, none⟩ = some (.slice B9 y.m.ops.length e9) ∧ V.cell? ⟨gs, got * 11, none⟩ = some (.int .i64 y.m.kind) ∧ V.cell? ⟨gs, got * 11 + 1, none⟩ = some (.int .i64 y.m.from_) ∧ V.cell? ⟨gs, got * 11 + 2, none⟩ = some (.int .i64 y.m.to_) ∧ V.cell? ⟨gs, got * 11 + 3, none⟩ = some (.int .i64 y.m.g) ∧ V.cell? ⟨gs, got * 11 + 4, none⟩ = some (.int .i64 y.m.node) ∧ V.cell? ⟨gs, got * 11 + 5, none⟩ = some (.int .i64 y.m.try_) ∧ V.cell? ⟨gs, got * 11 + 6, none⟩ = some (.int .i64 y.m.low) ∧ V.cell? ⟨gs, got * 11 + 7, none⟩ = some (.int .i64 y.m.code) ∧ V.cell? ⟨gs, got * 11 + 8, none⟩ = some (.int .i64 y.m.ticket) ∧ V.cell? ⟨gs, got * 11 + 9, none⟩ = some (.slice y.A y.m.told.length y.c) ∧ V.cell? ⟨gs, got * 11 + 10, none⟩ = some (.slice y.B y.m.ops.length y.d))
                (first | exact hSf.out _ hB12.out | exact hSf.out _ hB13.out | exact hSf.out _ hBd.out | go_keep)
                ((first
                  | (go_at_call 13; refine (Plain_any y.m A9' c9 B9 e9 _).mono ?_; rintro e w12 ⟨rfl, hB_⟩; simp only [msgA]; have hB12 := Lib.hid (bnext hBd.out hB_); clear hB_)
                  | (go_at_call 12; refine (Same_any y.m A9' c9 B9 e9 y.m y.A y.c y.B y.d _ (hM11.out.below hB12.out) (hYR.out.below hB12.out)).mono ?_; rintro e w13 ⟨b, rfl, hbt, hB_⟩; obtain rfl : b = true := hbt.2 rfl; have hB13 := Lib.hid (bnext hB12.out hB_); clear hB_ hbt)))
              all_goals
                clear s0 s1 s2 s3 s4 s5 s6 s7 s8 s9 s10 s11 s12 s13 s14 s15 s16 s17 s18 s19 s20 s21
                go_wp2_with fail
                go_roundw
                case rel => exact ⟨k + 1, S, got + 1, by omega, by go_num, by go_num, by omega, by omega, hI11.out.later hB13.out⟩
                case measure => simp [intOf]; omega
            · have hnt := hI6.out.net
              rw [List.drop_of_length_le (by omega), List.map_nil] at hnt
              have hD := Lib.hid (Deliver_none p 1024 [] 0 w6 (hH.out.1.below hI6.out.below) hnt (.inr (by simp)))
              clear hnt
              refine hD.out.mono ?_
              rintro e w10 ⟨rfl, hB_⟩
              simp only [zeroV]
              have hI10 := Lib.hid (hI6.out.later hB_)
              have hBa := below_alloc (Below.refl _ w10) (.cells #[.int .i64 0, .int .i64 0, .int .i64 0, .int .i64 0, .int .i64 0, .int .i64 0, .int .i64 0, .int .i64 0, .int .i64 0, .slice none 0 0, .slice none 0 0] 37)
              have hI11 := Lib.hid (hI10.out.later hBa)
              clear hB_ hD hBa
              have dg : decide ((S.length : Int) ≤ got) = true := by simp; omega
              have dle : S.length ≤ got := by omega
              go_wp2_with fail
              exact ⟨⟨k + 1, S, got, by omega, by go_num, rfl, by omega, by omega, hI11.out⟩, by simp [intOf]; omega⟩
        · have hcnt : (((((S.drop got).map pkOf) ++ [pkOf ⟨m', x.A, x.c, B', d'⟩]).length : Int) - ((S.drop got).map pkOf).length) = 1 := by rw [List.length_append]; simp; omega
          rw [send_may (x := ⟨m', x.A, x.c, B', d'⟩) hmay (by omega), hcnt] at hS
          have hSH := Lib.hid hS
          have hMY := Lib.hid hmay
          clear hS hmay hcnt
          refine hSH.out.mono ?_
          rintro e w6 ⟨rfl, hN_, hK_⟩
          obtain ⟨o1, o2, o3⟩ := hI5.out.sent (Nat.le_of_lt hp.out) hK_
          have hF6 := hF5.out.kept (KeptM_of_N (Nat.le_of_lt hp.out) hK_)
          have hb6 := (hK_.block wr.heap.size (lt_of_block hb4b.out) (by
            rintro ⟨_, cur, T, fr, hb, hT⟩
            rw [hb4b.out] at hb
            simp only [Option.some.injEq, Obj.cells.injEq] at hb
            obtain ⟨_, rfl, _⟩ := hb
            simp at hT)).trans hb4b.out
          have yx0 : w6.cell? ⟨wr.heap.size, 0, none⟩ = some (.int .i64 m'.kind) := by rw [block_cell hb6]; rfl
          have yf0 : w6.frozen? ⟨wr.heap.size, 0, none⟩ = false := block_free hb6 0
          have yx1 : w6.cell? ⟨wr.heap.size, 1, none⟩ = some (.int .i64 m'.from_) := by rw [block_cell hb6]; rfl
          have yf1 : w6.frozen? ⟨wr.heap.size, 1, none⟩ = false := block_free hb6 1
          have yx2 : w6.cell? ⟨wr.heap.size, 2, none⟩ = some (.int .i64 m'.to_) := by rw [block_cell hb6]; rfl
          have yf2 : w6.frozen? ⟨wr.heap.size, 2, none⟩ = false := block_free hb6 2
          have yx3 : w6.cell? ⟨wr.heap.size, 3, none⟩ = some (.int .i64 m'.g) := by rw [block_cell hb6]; rfl
          have yf3 : w6.frozen? ⟨wr.heap.size, 3, none⟩ = false := block_free hb6 3
          have yx4 : w6.cell? ⟨wr.heap.size, 4, none⟩ = some (.int .i64 m'.node) := by rw [block_cell hb6]; rfl
          have yf4 : w6.frozen? ⟨wr.heap.size, 4, none⟩ = false := block_free hb6 4
          have yx5 : w6.cell? ⟨wr.heap.size, 5, none⟩ = some (.int .i64 m'.try_) := by rw [block_cell hb6]; rfl
          have yf5 : w6.frozen? ⟨wr.heap.size, 5, none⟩ = false := block_free hb6 5
          have yx6 : w6.cell? ⟨wr.heap.size, 6, none⟩ = some (.int .i64 m'.low) := by rw [block_cell hb6]; rfl
          have yf6 : w6.frozen? ⟨wr.heap.size, 6, none⟩ = false := block_free hb6 6
          have yx7 : w6.cell? ⟨wr.heap.size, 7, none⟩ = some (.int .i64 m'.code) := by rw [block_cell hb6]; rfl
          have yf7 : w6.frozen? ⟨wr.heap.size, 7, none⟩ = false := block_free hb6 7
          have yx8 : w6.cell? ⟨wr.heap.size, 8, none⟩ = some (.int .i64 m'.ticket) := by rw [block_cell hb6]; rfl
          have yf8 : w6.frozen? ⟨wr.heap.size, 8, none⟩ = false := block_free hb6 8
          have yx9 : w6.cell? ⟨wr.heap.size, 9, none⟩ = some (.slice x.A m'.told.length x.c) := by rw [block_cell hb6]; rfl
          have yf9 : w6.frozen? ⟨wr.heap.size, 9, none⟩ = false := block_free hb6 9
          have yx10 : w6.cell? ⟨wr.heap.size, 10, none⟩ = some (.slice B' m'.ops.length d') := by rw [block_cell hb6]; rfl
          have yf10 : w6.frozen? ⟨wr.heap.size, 10, none⟩ = false := block_free hb6 10
          have hBa := below_alloc (Below.refl _ w6) (.cells #[.int .i64 m'.kind, .int .i64 m'.from_, .int .i64 m'.to_, .int .i64 m'.g, .int .i64 m'.node, .int .i64 m'.try_, .int .i64 m'.low, .int .i64 m'.code, .int .i64 m'.ticket, .slice x.A m'.told.length x.c, .slice B' m'.ops.length d'] 31)
          have hN7 := Lib.hid (hN_.later hBa)
          have hO7 := Lib.hid (own_below o1 hBa)
          have hM7 := Lib.hid (fun y hy => And.intro ((o2 y hy).1.below hBa) (o2 y hy).2)
          have hF7 := Lib.hid (hF6.below hBa)
          have hB7 := Lib.hid (bnext o3 hBa)
          have hrow7 := Lib.hid (show RowAt (w6.alloc (.cells #[.int .i64 m'.kind, .int .i64 m'.from_, .int .i64 m'.to_, .int .i64 m'.g, .int .i64 m'.node, .int .i64 m'.try_, .int .i64 m'.low, .int .i64 m'.code, .int .i64 m'.ticket, .slice x.A m'.told.length x.c, .slice B' m'.ops.length d'] 31)) (some ⟨w6.heap.size, 0, none⟩) (mvC ⟨m', x.A, x.c, B', d'⟩) from RowAt.made rfl)
          have hby7 : Hid ((S.length + 1) * 120 ≤ 140737488355328) := Lib.hid (by omega)
          have hone := Lib.hid (mvC_one ⟨m', x.A, x.c, B', d'⟩)
          have hZ11 : ((Value.agg #[.int .i64 0, .int .i64 0, .int .i64 0, .int .i64 0, .int .i64 0, .int .i64 0, .int .i64 0, .int .i64 0, .int .i64 0, .slice none 0 0, .slice none 0 0]).cells).size = 11 := rfl
          clear hN_ hK_ o1 o2 o3 hF6 hBa hb6
          go_wp2_with (at_builtin; refine list_of_wp rfl ?_; refine wp_append_row (.tmp 36) (.tmp 38) 22 rfl W.heap.size 31 (.agg #[.int .i64 0, .int .i64 0, .int .i64 0, .int .i64 0, .int .i64 0, .int .i64 0, .int .i64 0, .int .i64 0, .int .i64 0, .slice none 0 0, .slice none 0 0]) 11 120 Tryz.underlying22 Tryz.infoRM rfl (by decide) (by decide) (.slice As S.length cs) S.length (mvsC S) rfl hO7.out (some ⟨w6.heap.size, 0, none⟩) 1 1 (mvC ⟨m', x.A, x.c, B', d'⟩) rfl (by simp) (by decide) rfl hrow7.out hone.out hby7.out hB7.out.size ?_)
          intro v9 w9 hO9_ hG9_ _
          obtain ⟨A9, d9, rfl⟩ := own_slice hO9_
          have hI9 := OrdInv.pushed hN7.out hO7.out hM7.out ⟨hF7.out, hMY.out⟩ hB7.out hgot hO9_ hG9_
          obtain ⟨S2, hS2⟩ : ∃ S2, S2 = S ++ [⟨m', x.A, x.c, B', d'⟩] := ⟨_, rfl⟩
          rw [← hS2] at hI9
          have hl2 : S.length + 1 = S2.length := by rw [hS2]; simp
          rw [hl2]
          have hIS := Lib.hid hI9
          have hgot2 : got ≤ S2.length := by omega
          have hSk3 : S2.length ≤ k + 1 := by omega
          clear hl2
          clear hO9_ hG9_ hI9 hS2 yx0 yf0 yx1 yf1 yx2 yf2 yx3 yf3 yx4 yf4 yx5 yf5 yx6 yf6 yx7 yf7 yx8 yf8 yx9 yf9 yx10 yf10
          have hgx : got ≤ S2.length := hgot2
          have hSx : S2.length ≤ k + 1 := by omega
          by_cases hbk : k < bys.length
          · obtain ⟨ab, rfl, hcb⟩ := i64s_at (hH.out.2.2.2.1.below hIS.out.below) hbk
            generalize bys[k] = bv at hcb
            go_wp2_with fail
            · exact ⟨⟨k + 1, S2, got, by omega, by go_num, rfl, by omega, by omega, hIS.out⟩, by simp [intOf]; omega⟩
            by_cases hgt : got < S2.length
            · obtain ⟨y, hy⟩ : ∃ y, S2[got]? = some y := ⟨_, List.getElem?_eq_getElem hgt⟩
              have hmsg := hIS.out.msg y (List.mem_of_getElem? hy)
              have hnt := hIS.out.net
              rw [List.drop_eq_getElem_cons hgt, List.map_cons, show S2[got] = y from Option.some.inj ((List.getElem?_eq_getElem hgt).symm.trans hy)] at hnt
              have hD := Lib.hid (Deliver_good p 1024 (pkOf y :: (S2.drop (got + 1)).map pkOf) 0 (pkOf y) y.m w9 (hH.out.1.below hIS.out.below) hnt rfl rfl (by simp; omega) rfl hmsg.2 ⟨hmsg.1.r.nums.2.2.2.2.2.2.2.2, hmsg.1.r.toldok, hmsg.1.r.opsok⟩)
              have hYM := Lib.hid hy
              clear hnt hmsg hy
              refine hD.out.mono ?_
              rintro e w10 ⟨A9', c9, B9, e9, rfl, hM_, _, hN_, hK_⟩
              simp only [msgA]
              obtain ⟨o1, o2, o3⟩ := hIS.out.sent (Nat.le_of_lt hp.out) hK_
              have hI10 : Hid (OrdInv W w10 p S2 (got + 1) (.slice A9 S2.length d9)) := Lib.hid ⟨hN_, o1, o2, o3, hgt⟩
              have hBa := below_alloc (Below.refl _ w10) (.cells #[.int .i64 y.m.kind, .int .i64 y.m.from_, .int .i64 y.m.to_, .int .i64 y.m.g, .int .i64 y.m.node, .int .i64 y.m.try_, .int .i64 y.m.low, .int .i64 y.m.code, .int .i64 y.m.ticket, .slice A9' y.m.told.length c9, .slice B9 y.m.ops.length e9] 37)
              have hI11 := Lib.hid (hI10.out.later hBa)
              have hM11 := Lib.hid (hM_.below hBa)
              have hb11 := heap_alloc_new w10 (.cells #[.int .i64 y.m.kind, .int .i64 y.m.from_, .int .i64 y.m.to_, .int .i64 y.m.g, .int .i64 y.m.node, .int .i64 y.m.try_, .int .i64 y.m.low, .int .i64 y.m.code, .int .i64 y.m.ticket, .slice A9' y.m.told.length c9, .slice B9 y.m.ops.length e9] 37)
              clear hM_ hN_ hK_ o1 o2 o3 hD hBa
              have dg : decide ((S2.length : Int) ≤ got) = false := by simp; omega
              go_wp2_with fail
              generalize w10.alloc (.cells #[.int .i64 y.m.kind, .int .i64 y.m.from_, .int .i64 y.m.to_, .int .i64 y.m.g, .int .i64 y.m.node, .int .i64 y.m.try_, .int .i64 y.m.low, .int .i64 y.m.code, .int .i64 y.m.ticket, .slice A9' y.m.told.length c9, .slice B9 y.m.ops.length e9] 37) = w11 at *
              obtain ⟨gs, hgs⟩ : ∃ gs, A9 = some ⟨gs, 0, none⟩ := by
                rcases hI11.out.own.2 with ⟨_, h'⟩ | ⟨g', cap', cur, h', _⟩
                · omega
                · cases h'; exact ⟨g', rfl⟩
              subst hgs
              have hSf : Hid (∀ V : World, Below w11.heap.size w11 V → V.cell? ⟨w10.heap.size, 0, none⟩ = some (.int .i64 y.m.kind) ∧ V.cell? ⟨w10.heap.size, 1, none⟩ = some (.int .i64 y.m.from_) ∧ V.cell? ⟨w10.heap.size, 2, none⟩ = some (.int .i64 y.m.to_) ∧ V.cell? ⟨w10.heap.size, 3, none⟩ = some (.int .i64 y.m.g) ∧ V.cell? ⟨w10.heap.size, 4, none⟩ = some (.int .i64 y.m.node) ∧ V.cell? ⟨w10.heap.size, 5, none⟩ = some (.int .i64 y.m.try_) ∧ V.cell? ⟨w10.heap.size, 6, none⟩ = some (.int .i64 y.m.low) ∧ V.cell? ⟨w10.heap.size, 7, none⟩ = some (.int .i64 y.m.code) ∧ V.cell? ⟨w10.heap.size, 8, none⟩ = some (.int .i64 y.m.ticket) ∧ V.cell? ⟨w10.heap.size, 9, none⟩ = some (.slice A9' y.m.told.length c9) ∧ V.cell? ⟨w10.heap.size, 10, none⟩ = some (.slice B9 y.m.ops.length e9) ∧ V.cell? ⟨gs, got * 11, none⟩ = some (.int .i64 y.m.kind) ∧ V.cell? ⟨gs, got * 11 + 1, none⟩ = some (.int .i64 y.m.from_) ∧ V.cell? ⟨gs, got * 11 + 2, none⟩ = some (.int .i64 y.m.to_) ∧ V.cell? ⟨gs, got * 11 + 3, none⟩ = some (.int .i64 y.m.g) ∧ V.cell? ⟨gs, got * 11 + 4, none⟩ = some (.int .i64 y.m.node) ∧ V.cell? ⟨gs, got * 11 + 5, none⟩ = some (.int .i64 y.m.try_) ∧ V.cell? ⟨gs, got * 11 + 6, none⟩ = some (.int .i64 y.m.low) ∧ V.cell? ⟨gs, got * 11 + 7, none⟩ = some (.int .i64 y.m.code) ∧ V.cell? ⟨gs, got * 11 + 8, none⟩ = some (.int .i64 y.m.ticket) ∧ V.cell? ⟨gs, got * 11 + 9, none⟩ = some (.slice y.A y.m.told.length y.c) ∧ V.cell? ⟨gs, got * 11 + 10, none⟩ = some (.slice y.B y.m.ops.length y.d)) := Lib.hid (fun V hb => by
                have e1 := block_below hb hb11
                have e2 := own_below hI11.out.own hb
                have e3 : ∀ j, j < 11 → V.cell? ⟨gs, got * 11 + j, none⟩ = (mvC y)[j]? := fun j hj => by
                  rw [e2.cellAt _ (by omega)]
                  exact mvsC_get S2 got y j hYM.out hj
                exact ⟨by rw [block_cell e1]; rfl, by rw [block_cell e1]; rfl, by rw [block_cell e1]; rfl, by rw [block_cell e1]; rfl, by rw [block_cell e1]; rfl, by rw [block_cell e1]; rfl, by rw [block_cell e1]; rfl, by rw [block_cell e1]; rfl, by rw [block_cell e1]; rfl, by rw [block_cell e1]; rfl, by rw [block_cell e1]; rfl, e3 0 (by omega), e3 1 (by omega), e3 2 (by omega), e3 3 (by omega), e3 4 (by omega), e3 5 (by omega), e3 6 (by omega), e3 7 (by omega), e3 8 (by omega), e3 9 (by omega), e3 10 (by omega)⟩)
              obtain ⟨s0, s1, s2, s3, s4, s5, s6, s7, s8, s9, s10, s11, s12, s13, s14, s15, s16, s17, s18, s19, s20, s21⟩ := hSf.out w11 (Below.refl _ _)
              have hBd := Lib.hid (Below.refl w11.heap.size w11).drew
              have hMSG := Lib.hid (hIS.out.msg y (List.mem_of_getElem? hYM.out))
              have hYR : Hid (MsgR w11 y.m y.A y.c y.B y.d) := Lib.hid (hI11.out.msg y (List.mem_of_getElem? hYM.out)).1.r
              go_region_held3 (fun V => V.cell? ⟨w10.heap.size, 0, none⟩ = some (.int .i64 y.m.kind) ∧ V.cell? ⟨w10.heap.size, 1, none⟩ = some (.int .i64 y.m.from_) ∧ V.cell? ⟨w10.heap.size, 2, none⟩ = some (.int .i64 y.m.to_) ∧ V.cell? ⟨w10.heap.size, 3, none⟩ = some (.int .i64 y.m.g) ∧ V.cell? ⟨w10.heap.size, 4, none⟩ = some (.int .i64 y.m.node) ∧ V.cell? ⟨w10.heap.size, 5, none⟩ = some (.int .i64 y.m.try_) ∧ V.cell? ⟨w10.heap.size, 6, none⟩ = some (.int .i64 y.m.low) ∧ V.cell? ⟨w10.heap.size, 7, none⟩ = some (.int .i64 y.m.code) ∧ V.cell? ⟨w10.heap.size, 8, none⟩ = some (.int .i64 y.m.ticket) ∧ V.cell? ⟨w10.heap.size, 9, none⟩ = some (.slice A9' y.m.told.length c9) ∧ V.cell? ⟨w10.heap.size, 10, none⟩ = some (.slice B9 y.m.ops.length e9) ∧ V.cell? ⟨gs, got * 11, none⟩ = some (.int .i64 y.m.kind) ∧ V.cell? ⟨gs, got * 11 + 1, none⟩ = some (.int .i64 y.m.from_) ∧ V.cell? ⟨gs, got * 11 + 2, none⟩ = some (.int .i64 y.m.to_) ∧ V.cell? ⟨gs, got * 11 + 3, none⟩ = some (.int .i64 y.m.g) ∧ V.cell? ⟨gs, got * 11 + 4, none⟩ = some (.int .i64 y.m.node) ∧ V.cell? ⟨gs, got * 11 + 5, none⟩ = some (.int .i64 y.m.try_) ∧ V.cell? ⟨gs, got * 11 + 6, none⟩ = some (.int .i64 y.m.low) ∧ V.cell? ⟨gs, got * 11 + 7, none⟩ = some (.int .i64 y.m.code) ∧ V.cell? ⟨gs, got * 11 + 8, none⟩ = some (.int .i64 y.m.ticket) ∧ V.cell? ⟨gs, got * 11 + 9, none⟩ = some (.slice y.A y.m.told.length y.c) ∧ V.cell? ⟨gs, got * 11 + 10, none⟩ = some (.slice y.B y.m.ops.length y.d))
                (first | exact hSf.out _ hB12.out | exact hSf.out _ hB13.out | exact hSf.out _ hBd.out | go_keep)
                ((first
                  | (go_at_call 13; refine (Plain_any y.m A9' c9 B9 e9 _).mono ?_; rintro e w12 ⟨rfl, hB_⟩; simp only [msgA]; have hB12 := Lib.hid (bnext hBd.out hB_); clear hB_)
                  | (go_at_call 12; refine (Same_any y.m A9' c9 B9 e9 y.m y.A y.c y.B y.d _ (hM11.out.below hB12.out) (hYR.out.below hB12.out)).mono ?_; rintro e w13 ⟨b, rfl, hbt, hB_⟩; obtain rfl : b = true := hbt.2 rfl; have hB13 := Lib.hid (bnext hB12.out hB_); clear hB_ hbt)))
              all_goals
                clear s0 s1 s2 s3 s4 s5 s6 s7 s8 s9 s10 s11 s12 s13 s14 s15 s16 s17 s18 s19 s20 s21
                go_wp2_with fail
                go_roundw
                case rel => exact ⟨k + 1, S2, got + 1, by omega, by go_num, by go_num, by omega, by omega, hI11.out.later hB13.out⟩
                case measure => simp [intOf]; omega
            · have hnt := hIS.out.net
              rw [List.drop_of_length_le (by omega), List.map_nil] at hnt
              have hD := Lib.hid (Deliver_none p 1024 [] 0 w9 (hH.out.1.below hIS.out.below) hnt (.inr (by simp)))
              clear hnt
              refine hD.out.mono ?_
              rintro e w10 ⟨rfl, hB_⟩
              simp only [zeroV]
              have hI10 := Lib.hid (hIS.out.later hB_)
              have hBa := below_alloc (Below.refl _ w10) (.cells #[.int .i64 0, .int .i64 0, .int .i64 0, .int .i64 0, .int .i64 0, .int .i64 0, .int .i64 0, .int .i64 0, .int .i64 0, .slice none 0 0, .slice none 0 0] 37)
              have hI11 := Lib.hid (hI10.out.later hBa)
              clear hB_ hD hBa
              have dg : decide ((S2.length : Int) ≤ got) = true := by simp; omega
              have dle : S2.length ≤ got := by omega
              go_wp2_with fail
              exact ⟨⟨k + 1, S2, got, by omega, by go_num, rfl, by omega, by omega, hI11.out⟩, by simp [intOf]; omega⟩
          · go_wp2_with fail
            by_cases hgt : got < S2.length
            · obtain ⟨y, hy⟩ : ∃ y, S2[got]? = some y := ⟨_, List.getElem?_eq_getElem hgt⟩
              have hmsg := hIS.out.msg y (List.mem_of_getElem? hy)
              have hnt := hIS.out.net
              rw [List.drop_eq_getElem_cons hgt, List.map_cons, show S2[got] = y from Option.some.inj ((List.getElem?_eq_getElem hgt).symm.trans hy)] at hnt
              have hD := Lib.hid (Deliver_good p 1024 (pkOf y :: (S2.drop (got + 1)).map pkOf) 0 (pkOf y) y.m w9 (hH.out.1.below hIS.out.below) hnt rfl rfl (by simp; omega) rfl hmsg.2 ⟨hmsg.1.r.nums.2.2.2.2.2.2.2.2, hmsg.1.r.toldok, hmsg.1.r.opsok⟩)
              have hYM := Lib.hid hy
              clear hnt hmsg hy
              refine hD.out.mono ?_
              rintro e w10 ⟨A9', c9, B9, e9, rfl, hM_, _, hN_, hK_⟩
              simp only [msgA]
              obtain ⟨o1, o2, o3⟩ := hIS.out.sent (Nat.le_of_lt hp.out) hK_
              have hI10 : Hid (OrdInv W w10 p S2 (got + 1) (.slice A9 S2.length d9)) := Lib.hid ⟨hN_, o1, o2, o3, hgt⟩
              have hBa := below_alloc (Below.refl _ w10) (.cells #[.int .i64 y.m.kind, .int .i64 y.m.from_, .int .i64 y.m.to_, .int .i64 y.m.g, .int .i64 y.m.node, .int .i64 y.m.try_, .int .i64 y.m.low, .int .i64 y.m.code, .int .i64 y.m.ticket, .slice A9' y.m.told.length c9, .slice B9 y.m.ops.length e9] 37)
              have hI11 := Lib.hid (hI10.out.later hBa)
              have hM11 := Lib.hid (hM_.below hBa)
              have hb11 := heap_alloc_new w10 (.cells #[.int .i64 y.m.kind, .int .i64 y.m.from_, .int .i64 y.m.to_, .int .i64 y.m.g, .int .i64 y.m.node, .int .i64 y.m.try_, .int .i64 y.m.low, .int .i64 y.m.code, .int .i64 y.m.ticket, .slice A9' y.m.told.length c9, .slice B9 y.m.ops.length e9] 37)
              clear hM_ hN_ hK_ o1 o2 o3 hD hBa
              have dg : decide ((S2.length : Int) ≤ got) = false := by simp; omega
              go_wp2_with fail
              generalize w10.alloc (.cells #[.int .i64 y.m.kind, .int .i64 y.m.from_, .int .i64 y.m.to_, .int .i64 y.m.g, .int .i64 y.m.node, .int .i64 y.m.try_, .int .i64 y.m.low, .int .i64 y.m.code, .int .i64 y.m.ticket, .slice A9' y.m.told.length c9, .slice B9 y.m.ops.length e9] 37) = w11 at *
              obtain ⟨gs, hgs⟩ : ∃ gs, A9 = some ⟨gs, 0, none⟩ := by
                rcases hI11.out.own.2 with ⟨_, h'⟩ | ⟨g', cap', cur, h', _⟩
                · omega
                · cases h'; exact ⟨g', rfl⟩
              subst hgs
              have hSf : Hid (∀ V : World, Below w11.heap.size w11 V → V.cell? ⟨w10.heap.size, 0, none⟩ = some (.int .i64 y.m.kind) ∧ V.cell? ⟨w10.heap.size, 1, none⟩ = some (.int .i64 y.m.from_) ∧ V.cell? ⟨w10.heap.size, 2, none⟩ = some (.int .i64 y.m.to_) ∧ V.cell? ⟨w10.heap.size, 3, none⟩ = some (.int .i64 y.m.g) ∧ V.cell? ⟨w10.heap.size, 4, none⟩ = some (.int .i64 y.m.node) ∧ V.cell? ⟨w10.heap.size, 5, none⟩ = some (.int .i64 y.m.try_) ∧ V.cell? ⟨w10.heap.size, 6, none⟩ = some (.int .i64 y.m.low) ∧ V.cell? ⟨w10.heap.size, 7, none⟩ = some (.int .i64 y.m.code) ∧ V.cell? ⟨w10.heap.size, 8, none⟩ = some (.int .i64 y.m.ticket) ∧ V.cell? ⟨w10.heap.size, 9, none⟩ = some (.slice A9' y.m.told.length c9) ∧ V.cell? ⟨w10.heap.size, 10, none⟩ = some (.slice B9 y.m.ops.length e9) ∧ V.cell? ⟨gs, got * 11, none⟩ = some (.int .i64 y.m.kind) ∧ V.cell? ⟨gs, got * 11 + 1, none⟩ = some (.int .i64 y.m.from_) ∧ V.cell? ⟨gs, got * 11 + 2, none⟩ = some (.int .i64 y.m.to_) ∧ V.cell? ⟨gs, got * 11 + 3, none⟩ = some (.int .i64 y.m.g) ∧ V.cell? ⟨gs, got * 11 + 4, none⟩ = some (.int .i64 y.m.node) ∧ V.cell? ⟨gs, got * 11 + 5, none⟩ = some (.int .i64 y.m.try_) ∧ V.cell? ⟨gs, got * 11 + 6, none⟩ = some (.int .i64 y.m.low) ∧ V.cell? ⟨gs, got * 11 + 7, none⟩ = some (.int .i64 y.m.code) ∧ V.cell? ⟨gs, got * 11 + 8, none⟩ = some (.int .i64 y.m.ticket) ∧ V.cell? ⟨gs, got * 11 + 9, none⟩ = some (.slice y.A y.m.told.length y.c) ∧ V.cell? ⟨gs, got * 11 + 10, none⟩ = some (.slice y.B y.m.ops.length y.d)) := Lib.hid (fun V hb => by
                have e1 := block_below hb hb11
                have e2 := own_below hI11.out.own hb
                have e3 : ∀ j, j < 11 → V.cell? ⟨gs, got * 11 + j, none⟩ = (mvC y)[j]? := fun j hj => by
                  rw [e2.cellAt _ (by omega)]
                  exact mvsC_get S2 got y j hYM.out hj
                exact ⟨by rw [block_cell e1]; rfl, by rw [block_cell e1]; rfl, by rw [block_cell e1]; rfl, by rw [block_cell e1]; rfl, by rw [block_cell e1]; rfl, by rw [block_cell e1]; rfl, by rw [block_cell e1]; rfl, by rw [block_cell e1]; rfl, by rw [block_cell e1]; rfl, by rw [block_cell e1]; rfl, by rw [block_cell e1]; rfl, e3 0 (by omega), e3 1 (by omega), e3 2 (by omega), e3 3 (by omega), e3 4 (by omega), e3 5 (by omega), e3 6 (by omega), e3 7 (by omega), e3 8 (by omega), e3 9 (by omega), e3 10 (by omega)⟩)
              obtain ⟨s0, s1, s2, s3, s4, s5, s6, s7, s8, s9, s10, s11, s12, s13, s14, s15, s16, s17, s18, s19, s20, s21⟩ := hSf.out w11 (Below.refl _ _)
              have hBd := Lib.hid (Below.refl w11.heap.size w11).drew
              have hMSG := Lib.hid (hIS.out.msg y (List.mem_of_getElem? hYM.out))
              have hYR : Hid (MsgR w11 y.m y.A y.c y.B y.d) := Lib.hid (hI11.out.msg y (List.mem_of_getElem? hYM.out)).1.r
              go_region_held3 (fun V => V.cell? ⟨w10.heap.size, 0, none⟩ = some (.int .i64 y.m.kind) ∧ V.cell? ⟨w10.heap.size, 1, none⟩ = some (.int .i64 y.m.from_) ∧ V.cell? ⟨w10.heap.size, 2, none⟩ = some (.int .i64 y.m.to_) ∧ V.cell? ⟨w10.heap.size, 3, none⟩ = some (.int .i64 y.m.g) ∧ V.cell? ⟨w10.heap.size, 4, none⟩ = some (.int .i64 y.m.node) ∧ V.cell? ⟨w10.heap.size, 5, none⟩ = some (.int .i64 y.m.try_) ∧ V.cell? ⟨w10.heap.size, 6, none⟩ = some (.int .i64 y.m.low) ∧ V.cell? ⟨w10.heap.size, 7, none⟩ = some (.int .i64 y.m.code) ∧ V.cell? ⟨w10.heap.size, 8, none⟩ = some (.int .i64 y.m.ticket) ∧ V.cell? ⟨w10.heap.size, 9, none⟩ = some (.slice A9' y.m.told.length c9) ∧ V.cell? ⟨w10.heap.size, 10, none⟩ = some (.slice B9 y.m.ops.length e9) ∧ V.cell? ⟨gs, got * 11, none⟩ = some (.int .i64 y.m.kind) ∧ V.cell? ⟨gs, got * 11 + 1, none⟩ = some (.int .i64 y.m.from_) ∧ V.cell? ⟨gs, got * 11 + 2, none⟩ = some (.int .i64 y.m.to_) ∧ V.cell? ⟨gs, got * 11 + 3, none⟩ = some (.int .i64 y.m.g) ∧ V.cell? ⟨gs, got * 11 + 4, none⟩ = some (.int .i64 y.m.node) ∧ V.cell? ⟨gs, got * 11 + 5, none⟩ = some (.int .i64 y.m.try_) ∧ V.cell? ⟨gs, got * 11 + 6, none⟩ = some (.int .i64 y.m.low) ∧ V.cell? ⟨gs, got * 11 + 7, none⟩ = some (.int .i64 y.m.code) ∧ V.cell? ⟨gs, got * 11 + 8, none⟩ = some (.int .i64 y.m.ticket) ∧ V.cell? ⟨gs, got * 11 + 9, none⟩ = some (.slice y.A y.m.told.length y.c) ∧ V.cell? ⟨gs, got * 11 + 10, none⟩ = some (.slice y.B y.m.ops.length y.d))
                (first | exact hSf.out _ hB12.out | exact hSf.out _ hB13.out | exact hSf.out _ hBd.out | go_keep)
                ((first
                  | (go_at_call 13; refine (Plain_any y.m A9' c9 B9 e9 _).mono ?_; rintro e w12 ⟨rfl, hB_⟩; simp only [msgA]; have hB12 := Lib.hid (bnext hBd.out hB_); clear hB_)
                  | (go_at_call 12; refine (Same_any y.m A9' c9 B9 e9 y.m y.A y.c y.B y.d _ (hM11.out.below hB12.out) (hYR.out.below hB12.out)).mono ?_; rintro e w13 ⟨b, rfl, hbt, hB_⟩; obtain rfl : b = true := hbt.2 rfl; have hB13 := Lib.hid (bnext hB12.out hB_); clear hB_ hbt)))
              all_goals
                clear s0 s1 s2 s3 s4 s5 s6 s7 s8 s9 s10 s11 s12 s13 s14 s15 s16 s17 s18 s19 s20 s21
                go_wp2_with fail
                go_roundw
                case rel => exact ⟨k + 1, S2, got + 1, by omega, by go_num, by go_num, by omega, by omega, hI11.out.later hB13.out⟩
                case measure => simp [intOf]; omega
            · have hnt := hIS.out.net
              rw [List.drop_of_length_le (by omega), List.map_nil] at hnt
              have hD := Lib.hid (Deliver_none p 1024 [] 0 w9 (hH.out.1.below hIS.out.below) hnt (.inr (by simp)))
              clear hnt
              refine hD.out.mono ?_
              rintro e w10 ⟨rfl, hB_⟩
              simp only [zeroV]
              have hI10 := Lib.hid (hIS.out.later hB_)
              have hBa := below_alloc (Below.refl _ w10) (.cells #[.int .i64 0, .int .i64 0, .int .i64 0, .int .i64 0, .int .i64 0, .int .i64 0, .int .i64 0, .int .i64 0, .int .i64 0, .slice none 0 0, .slice none 0 0] 37)
              have hI11 := Lib.hid (hI10.out.later hBa)
              clear hB_ hD hBa
              have dg : decide ((S2.length : Int) ≤ got) = true := by simp; omega
              have dle : S2.length ≤ got := by omega
              go_wp2_with fail
              exact ⟨⟨k + 1, S2, got, by omega, by go_num, rfl, by omega, by omega, hI11.out⟩, by simp [intOf]; omega⟩
    · have hn : (((S.drop got).map pkOf).length : Int) = S.length - got := by simp; omega
      have hSk2 : S.length ≤ 40 := by omega
      go_wp2_with fail
      refine (Len_net p 1024 _ _ (hI.out).net).mono ?_
      rintro e wz ⟨rfl, rfl⟩
      rw [hn]
      go_wp2_with fail
      refine (awake_any _ (hH.out.1.below (hI.out).below)).mono ?_
      rintro e wy ⟨rfl, hBy_⟩
      have hBy := Lib.hid (bnext (hI.out).below hBy_)
      clear hBy_
      go_wp2_with fail
      go_ret
      exact ⟨rfl, hBy.out⟩
end Go.Proofs.YteeiacfddjhhkaaGreatDoor
