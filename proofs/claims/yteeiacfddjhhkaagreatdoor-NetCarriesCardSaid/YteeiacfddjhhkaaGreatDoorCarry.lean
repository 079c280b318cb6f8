/- byroadlaw20.NetCarries, walked: true, and old memory is as it was. -/
import Derived.Test.YteeiacfddjhhkaaGreatDoorCut
import Derived.Test.YteeiacfddjhhkaaGreatDoorSame
import Derived.Test.YteeiacfddjhhkaaGreatDoorAwake
import Derived.Test.YteeiacfddjhhkaaGreatDoorCarry0
import Derived.Test.YteeiacfddjhhkaaGreatDoorOpen2
namespace Go.Proofs.YteeiacfddjhhkaaGreatDoor
open Go.RowKit
set_option maxRecDepth 100000

/-- Between two rounds. -/
structure CarInv (W wr : World) (p : Nat) (S : List MV) (ks : List PK) (s : Value) : Prop where
  net : NetAt wr p 100 ks
  own : wr.ownsRow W.heap.size 31 11 s S.length (mvsC S)
  msg : ∀ x ∈ S, MsgF wr W.heap.size x ∧ okM x.m
  below : Below W.heap.size W wr
  pk : ∀ k ∈ ks, GoodS S k.b ∨ NoF k.b
theorem CarInv.later {W wr w' : World} {p : Nat} {S : List MV} {ks : List PK} {s : Value} (h : CarInv W wr p S ks s) (hb : Below wr.heap.size wr w') : CarInv W w' p S ks s :=
  ⟨h.net.later hb, own_below h.own hb, fun x hx => ⟨(h.msg x hx).1.below hb, (h.msg x hx).2⟩, bnext h.below hb, h.pk⟩
theorem CarInv.store {W wr w2 w3 : World} {p : Nat} {S : List MV} {ks : List PK} {q : Nat} {s : Value} {cur : Array Value} {fr : Nat × Nat} (h : CarInv W wr p S ks s) (hb : Below wr.heap.size wr w2) (hk : Kept (· = q) w2 w3) (hq : q = wr.heap.size) (hq2 : w2.heap[q]? = some (.cells cur 48 fr)) : CarInv W w3 p S ks s := by
  have h2 := h.later hb
  have hkM : Kept (MS w2 W.heap.size) w2 w3 := hk.mono (fun k e => by subst e; exact ⟨by rw [hq]; exact h.below.size, cur, _, fr, hq2, .inr (.inr (.inr (.inr rfl)))⟩)
  refine ⟨h2.net.keptS hk (fun q' o e ho => ?_), own_move h2.own fun q' hq' => hk.block q' ((h2.own.lt q' hq').2) (fun e => ?_), fun x hx => ⟨(h2.msg x hx).1.kept hkM, (h2.msg x hx).2⟩, KeptM_below h2.below hkM, h.pk⟩
  · subst e
    rw [hq2] at ho
    cases ho
    exact ⟨_, _, _, rfl, by decide, by decide, by decide⟩
  · have := (h.own.lt q' hq').2
    omega
theorem CarInv.kept {W w5 w6 : World} {p : Nat} {S : List MV} {ks ks' : List PK} {s : Value} (h : CarInv W w5 p S ks s) (hp : W.heap.size ≤ p) (hN : NetAt w6 p 100 ks') (hK : Kept (NS w5 p) w5 w6) (hpk : ∀ k ∈ ks', GoodS S k.b ∨ NoF k.b) : CarInv W w6 p S ks' s :=
  ⟨hN, own_keptN h.own hK (by decide), fun x hx => ⟨(h.msg x hx).1.kept (KeptM_of_N hp hK), (h.msg x hx).2⟩, KeptM_below h.below (KeptM_of_N hp hK), hpk⟩
theorem CarInv.step {W w5 w6 : World} {p : Nat} {S : List MV} {ks : List PK} {s : Value} (h : CarInv W w5 p S ks s) (hp : W.heap.size ≤ p) (hst : NetStep w5 p 100 ks w6) : ∃ ks', CarInv W w6 p S ks' s ∧ ks'.length ≤ ks.length + 1 := by
  obtain ⟨ks', hN, hK, hl, hm⟩ := hst
  refine ⟨ks', h.kept hp hN hK (fun k' hk' => ?_), hl⟩
  obtain ⟨k, hk, e⟩ := hm k' hk'
  rw [e]
  exact h.pk k hk
theorem CarInv.pushed {W w7 w9 : World} {p : Nat} {S : List MV} {ks : List PK} {s : Value} {A9 : Option Addr} {d9 : Nat} {x' : MV} (net7 : NetAt w7 p 100 (ks ++ [pkOf x'])) (own7 : w7.ownsRow W.heap.size 31 11 s S.length (mvsC S)) (msg7 : ∀ x ∈ S, MsgF w7 W.heap.size x ∧ okM x.m)
    (hx : MsgF w7 W.heap.size x' ∧ okM x'.m) (hB7 : Below W.heap.size W w7) (hpk : ∀ k ∈ ks, GoodS S k.b ∨ NoF k.b) (hO9 : w9.ownsRow W.heap.size 31 11 (.slice A9 (S.length + 1) d9) (S.length + 1) (mvsC S ++ mvC x')) (hG : w7.grownBy w9 s.ownBlock) :
    CarInv W w9 p (S ++ [x']) (ks ++ [pkOf x']) (.slice A9 (S ++ [x']).length d9) := by
  have hkS : Kept (fun q => s.ownBlock = some q) w7 w9 := ⟨hG.os, hG.tape, hG.output, hG.size, fun q hq hn => hG.block q hq (fun e => hn e.symm)⟩
  have hkM : Kept (MS w7 W.heap.size) w7 w9 := hkS.mono (fun q e => by
    obtain ⟨cur, hc⟩ := own_type own7 e
    exact ⟨own_ge own7 q e, cur, _, _, hc, .inr (.inr (.inl rfl))⟩)
  have hlen : (S ++ [x']).length = S.length + 1 := by simp
  refine ⟨net7.keptS hkS (fun q o e ho => ?_), by rw [hlen, mvsC_snoc]; exact hO9, fun x hx' => ?_, KeptM_below hB7 hkM, fun k hk => ?_⟩
  · obtain ⟨cur, hc⟩ := own_type own7 e
    rw [hc] at ho
    cases ho
    exact ⟨_, _, _, rfl, by decide, by decide, by decide⟩
  · rcases List.mem_append.1 hx' with h | h
    · exact ⟨(msg7 x h).1.kept hkM, (msg7 x h).2⟩
    · simp at h
      subst h
      exact ⟨hx.1.kept hkM, hx.2⟩
  · rcases List.mem_append.1 hk with h | h
    · exact (hpk k h).imp (fun g => g.mono x') id
    · simp at h
      subst h
      exact .inl ⟨x', by simp, hx.2, rfl⟩
theorem kind_cases (k : Int) : k = 0 ∨ k = 1 ∨ k = 2 ∨ k = 3 ∨ k = 4 ∨ k = 5 ∨ k = 6 ∨ k = 7 ∨ k = 8 ∨ k = 11 ∨ ((k == 0) = false ∧ (k == 1) = false ∧ (k == 2) = false ∧ (k == 3) = false ∧ (k == 4) = false ∧ (k == 5) = false ∧ (k == 6) = false ∧ (k == 7) = false ∧ (k == 8) = false ∧ (k == 11) = false) := by
  simp only [beq_eq_false_iff_ne]
  omega
set_option maxHeartbeats 16000000 in
theorem NetCarries_walk (l : List OpV) (L : Option Addr) (cl : Nat) (W : World) (hG : GOk W) (hr : RowAt W L (opvsC l)) (hl : l.length ≤ maxLen) (hm : ∀ o ∈ l, InM W o.x) :
    Calls Tryz.prog 4 #[.slice L l.length cl] W fun e w' => e = .returned (.bool true) ∧ Below W.heap.size W w' := by
  have hH := Lib.hid (And.intro hG (And.intro hr hm))
  unfold maxLen at hl
  clear hG hr hm
  go_enter Tryz.func4, Tryz.ntmps4
  go_wp2_with fail
  refine (new_any 100 _ (by decide)).mono ?_
  rintro e w0 ⟨p, rfl, hN_, hp_, hB_⟩
  have hI0 : Hid (CarInv W w0 p [] [] (.slice none 0 0)) := Lib.hid ⟨hN_, own_nil _ _ _ _, fun x hx => by simp at hx, hB_, fun k hk => by simp at hk⟩
  have hp := Lib.hid hp_
  clear hN_ hB_ hp_
  go_wp2_with fail
  go_loopw [5, 28] (fun s i wr => ∃ (k : Nat) (S : List MV) (ks : List PK), k ≤ l.length ∧ i = .int .i64 k ∧ S.length ≤ k ∧ ks.length ≤ k ∧ k ≤ 60 ∧ CarInv W wr p S ks s) (fun _ i _ => l.length - (intOf i).toNat)
  case atStart => exact ⟨0, [], [], by omega, rfl, by simp, by simp, by omega, hI0.out⟩
  case round =>
    obtain ⟨k, S, ks, hk, rfl, hSk, hks, hk60, hI_⟩ := hrel
    have hI := Lib.hid hI_
    obtain ⟨As, cs, rfl⟩ := own_slice hI_.own
    clear hI_
    by_cases hlt : k < l.length
    · obtain ⟨o, ho⟩ : ∃ o, l[k]? = some o := ⟨_, List.getElem?_eq_getElem hlt⟩
      obtain ⟨ad, rfl, c0, c1, c2, c3, c4, c5, c6, c7, c8, c9, c10, c11, c12, c13, c14⟩ := opvs_at (hH.out.2.1.below hI.out.below) ho
      have hXM := Lib.hid (hH.out.2.2 o (List.mem_of_getElem? ho))
      obtain ⟨kind, near, x, i, kk⟩ := o
      simp only at hXM c0 c1 c2 c3 c4 c5 c6 c7 c8 c9 c10 c11 c12 c13 c14
      have hB1 := Lib.hid (below_alloc (Below.refl _ wr) (.cells #[.int .i64 kind, .bool near, .int .i64 x.m.kind, .int .i64 x.m.from_, .int .i64 x.m.to_, .int .i64 x.m.g, .int .i64 x.m.node, .int .i64 x.m.try_, .int .i64 x.m.low, .int .i64 x.m.code, .int .i64 x.m.ticket, .slice x.A x.m.told.length x.c, .slice x.B x.m.ops.length x.d, .int .i64 i, .int .i64 kk] 48))
      have hHb1 := Lib.hid (heap_alloc_new wr (.cells #[.int .i64 kind, .bool near, .int .i64 x.m.kind, .int .i64 x.m.from_, .int .i64 x.m.to_, .int .i64 x.m.g, .int .i64 x.m.node, .int .i64 x.m.try_, .int .i64 x.m.low, .int .i64 x.m.code, .int .i64 x.m.ticket, .slice x.A x.m.told.length x.c, .slice x.B x.m.ops.length x.d, .int .i64 i, .int .i64 kk] 48))
      clear ho
      by_cases h60 : 60 ≤ k
      · have d60 : decide ((60 : Int) ≤ k) = true := by simp; omega
        have hI1 := Lib.hid (hI.out.later hB1.out)
        go_wp2_with fail
        generalize wr.alloc (.cells #[.int .i64 kind, .bool near, .int .i64 x.m.kind, .int .i64 x.m.from_, .int .i64 x.m.to_, .int .i64 x.m.g, .int .i64 x.m.node, .int .i64 x.m.try_, .int .i64 x.m.low, .int .i64 x.m.code, .int .i64 x.m.ticket, .slice x.A x.m.told.length x.c, .slice x.B x.m.ops.length x.d, .int .i64 i, .int .i64 kk] 48) = W1 at *
        refine (awake_any _ (hH.out.1.below (hI1.out).below)).mono ?_
        rintro e wy ⟨rfl, hBy_⟩
        have hBy := Lib.hid (bnext (hI1.out).below hBy_)
        clear hBy_
        go_wp2_with fail
        go_ret
        exact ⟨rfl, hBy.out⟩
      · have d60 : decide ((60 : Int) ≤ k) = false := by simp; omega
        have hCut := Lib.hid (fun w hB => Cut_any x W w hXM.out hB)
        go_wp2_with fail
        generalize wr.alloc (.cells #[.int .i64 kind, .bool near, .int .i64 x.m.kind, .int .i64 x.m.from_, .int .i64 x.m.to_, .int .i64 x.m.g, .int .i64 x.m.node, .int .i64 x.m.try_, .int .i64 x.m.low, .int .i64 x.m.code, .int .i64 x.m.ticket, .slice x.A x.m.told.length x.c, .slice x.B x.m.ops.length x.d, .int .i64 i, .int .i64 kk] 48) = W1 at *
        have hSb : Hid (∀ V : World, Below W1.heap.size W1 V → V.cell? ⟨wr.heap.size, 0, none⟩ = some (.int .i64 kind) ∧ V.cell? ⟨wr.heap.size, 1, none⟩ = some (.bool near) ∧ V.cell? ⟨wr.heap.size, 2, none⟩ = some (.int .i64 x.m.kind) ∧ V.cell? ⟨wr.heap.size, 3, none⟩ = some (.int .i64 x.m.from_) ∧ V.cell? ⟨wr.heap.size, 4, none⟩ = some (.int .i64 x.m.to_) ∧ V.cell? ⟨wr.heap.size, 5, none⟩ = some (.int .i64 x.m.g) ∧ V.cell? ⟨wr.heap.size, 6, none⟩ = some (.int .i64 x.m.node) ∧ V.cell? ⟨wr.heap.size, 7, none⟩ = some (.int .i64 x.m.try_) ∧ V.cell? ⟨wr.heap.size, 8, none⟩ = some (.int .i64 x.m.low) ∧ V.cell? ⟨wr.heap.size, 9, none⟩ = some (.int .i64 x.m.code) ∧ V.cell? ⟨wr.heap.size, 10, none⟩ = some (.int .i64 x.m.ticket) ∧ V.cell? ⟨wr.heap.size, 11, none⟩ = some (.slice x.A x.m.told.length x.c) ∧ V.cell? ⟨wr.heap.size, 12, none⟩ = some (.slice x.B x.m.ops.length x.d) ∧ V.cell? ⟨wr.heap.size, 13, none⟩ = some (.int .i64 i) ∧ V.cell? ⟨wr.heap.size, 14, none⟩ = some (.int .i64 kk)) := Lib.hid (fun V hb => by
          have e := block_below hb hHb1.out
          exact ⟨by rw [block_cell e]; rfl, by rw [block_cell e]; rfl, by rw [block_cell e]; rfl, by rw [block_cell e]; rfl, by rw [block_cell e]; rfl, by rw [block_cell e]; rfl, by rw [block_cell e]; rfl, by rw [block_cell e]; rfl, by rw [block_cell e]; rfl, by rw [block_cell e]; rfl, by rw [block_cell e]; rfl, by rw [block_cell e]; rfl, by rw [block_cell e]; rfl, by rw [block_cell e]; rfl, by rw [block_cell e]; rfl⟩)
        have hBd : Hid (Below W1.heap.size W1 W1.drew) := Lib.hid (Below.refl _ W1).drew
        have hBr : Hid (Below wr.heap.size wr W1.drew) := Lib.hid hB1.out.drew
        have hN1 : Hid (NetAt W1.drew p 100 ks) := Lib.hid (hI.out.net.later hBr.out)
        refine wp_region_split (S := fun V : World => V.cell? ⟨wr.heap.size, 0, none⟩ = some (.int .i64 kind) ∧ V.cell? ⟨wr.heap.size, 1, none⟩ = some (.bool near) ∧ V.cell? ⟨wr.heap.size, 2, none⟩ = some (.int .i64 x.m.kind) ∧ V.cell? ⟨wr.heap.size, 3, none⟩ = some (.int .i64 x.m.from_) ∧ V.cell? ⟨wr.heap.size, 4, none⟩ = some (.int .i64 x.m.to_) ∧ V.cell? ⟨wr.heap.size, 5, none⟩ = some (.int .i64 x.m.g) ∧ V.cell? ⟨wr.heap.size, 6, none⟩ = some (.int .i64 x.m.node) ∧ V.cell? ⟨wr.heap.size, 7, none⟩ = some (.int .i64 x.m.try_) ∧ V.cell? ⟨wr.heap.size, 8, none⟩ = some (.int .i64 x.m.low) ∧ V.cell? ⟨wr.heap.size, 9, none⟩ = some (.int .i64 x.m.code) ∧ V.cell? ⟨wr.heap.size, 10, none⟩ = some (.int .i64 x.m.ticket) ∧ V.cell? ⟨wr.heap.size, 11, none⟩ = some (.slice x.A x.m.told.length x.c) ∧ V.cell? ⟨wr.heap.size, 12, none⟩ = some (.slice x.B x.m.ops.length x.d) ∧ V.cell? ⟨wr.heap.size, 13, none⟩ = some (.int .i64 i) ∧ V.cell? ⟨wr.heap.size, 14, none⟩ = some (.int .i64 kk)) 4 (by kernel_rfl) (by kernel_rfl) (hSb.out _ hBd.out) (fun hS0 => ?_)
        simp only [List.take_succ_cons, List.take_zero, List.drop_succ_cons, List.drop_zero]
        refine wpAnyH_take (i := 0) (v := ?_) rfl (by kernel_rfl) (by kernel_rfl) (by kernel_rfl) (fun _ _ _ h => h) (Or.inl ⟨by rfl, ?_⟩) (by assumption) ?_
        rotate_left
        · intro w' hSw
          obtain ⟨q0, q1, q2, q3, q4, q5, q6, q7, q8, q9, q10, q11, q12, q13, q14⟩ := hSw
          go_simp
          try with_reducible rfl
        simp only [Act.put, List.setIfInBounds_toArray, List.set_cons_zero, List.set_cons_succ]
        refine wpAnyH_take (i := 1) (v := ?_) rfl (by kernel_rfl) (by kernel_rfl) (by kernel_rfl) (fun _ _ _ h => h) (Or.inl ⟨by rfl, ?_⟩) (by assumption) ?_
        rotate_left
        · intro w' hSw
          obtain ⟨q0, q1, q2, q3, q4, q5, q6, q7, q8, q9, q10, q11, q12, q13, q14⟩ := hSw
          go_simp
          try with_reducible rfl
        simp only [Act.put, List.setIfInBounds_toArray, List.set_cons_zero, List.set_cons_succ]
        refine wpAnyH_ready (rs := [2]) (by kernel_rfl) (by simp) ?_
        refine AllReadyH.cons rfl (fun K hK => ?_) AllReadyH.nil
        go_simp
        refine (Len_net p 100 ks _ hN1.out).mono ?_
        rintro e wz ⟨rfl, rfl⟩
        refine hK.out _ _ (hSb.out _ hBd.out) (fun hS1 => ?_)
        clear hK K
        try simp only [Act.put, List.setIfInBounds_toArray, List.set_cons_zero, List.set_cons_succ]
        refine wpAnyH_ready (rs := [3]) (by kernel_rfl) (by simp) ?_
        refine AllReadyH.cons rfl (fun K hK => ?_) AllReadyH.nil
        go_simp
        refine (near_any kind near x i kk ks.length _).mono ?_
        rintro e w2 ⟨i', k', rfl, hB_⟩
        simp only [opA]
        have hB2 := Lib.hid (bnext hBr.out hB_)
        have hB2d := Lib.hid (bnext hBd.out hB_)
        clear hB_
        refine hK.out _ _ (hSb.out _ hB2d.out) (fun hS2 => ?_)
        clear hK K
        try simp only [Act.put, List.setIfInBounds_toArray, List.set_cons_zero, List.set_cons_succ]
        refine wpAnyH_done (by kernel_rfl) ?_ _
        simp only [HeadPost]
        clear hS0 hS1 hS2
        have hb := block_below hB2d.out hHb1.out
        have hb2 := Lib.hid hb
        have xx0 : w2.cell? ⟨wr.heap.size, 0, none⟩ = some (.int .i64 kind) := by rw [block_cell hb]; rfl
        have ff0 : w2.frozen? ⟨wr.heap.size, 0, none⟩ = false := block_free hb 0
        have xx1 : w2.cell? ⟨wr.heap.size, 1, none⟩ = some (.bool near) := by rw [block_cell hb]; rfl
        have ff1 : w2.frozen? ⟨wr.heap.size, 1, none⟩ = false := block_free hb 1
        have xx2 : w2.cell? ⟨wr.heap.size, 2, none⟩ = some (.int .i64 x.m.kind) := by rw [block_cell hb]; rfl
        have ff2 : w2.frozen? ⟨wr.heap.size, 2, none⟩ = false := block_free hb 2
        have xx3 : w2.cell? ⟨wr.heap.size, 3, none⟩ = some (.int .i64 x.m.from_) := by rw [block_cell hb]; rfl
        have ff3 : w2.frozen? ⟨wr.heap.size, 3, none⟩ = false := block_free hb 3
        have xx4 : w2.cell? ⟨wr.heap.size, 4, none⟩ = some (.int .i64 x.m.to_) := by rw [block_cell hb]; rfl
        have ff4 : w2.frozen? ⟨wr.heap.size, 4, none⟩ = false := block_free hb 4
        have xx5 : w2.cell? ⟨wr.heap.size, 5, none⟩ = some (.int .i64 x.m.g) := by rw [block_cell hb]; rfl
        have ff5 : w2.frozen? ⟨wr.heap.size, 5, none⟩ = false := block_free hb 5
        have xx6 : w2.cell? ⟨wr.heap.size, 6, none⟩ = some (.int .i64 x.m.node) := by rw [block_cell hb]; rfl
        have ff6 : w2.frozen? ⟨wr.heap.size, 6, none⟩ = false := block_free hb 6
        have xx7 : w2.cell? ⟨wr.heap.size, 7, none⟩ = some (.int .i64 x.m.try_) := by rw [block_cell hb]; rfl
        have ff7 : w2.frozen? ⟨wr.heap.size, 7, none⟩ = false := block_free hb 7
        have xx8 : w2.cell? ⟨wr.heap.size, 8, none⟩ = some (.int .i64 x.m.low) := by rw [block_cell hb]; rfl
        have ff8 : w2.frozen? ⟨wr.heap.size, 8, none⟩ = false := block_free hb 8
        have xx9 : w2.cell? ⟨wr.heap.size, 9, none⟩ = some (.int .i64 x.m.code) := by rw [block_cell hb]; rfl
        have ff9 : w2.frozen? ⟨wr.heap.size, 9, none⟩ = false := block_free hb 9
        have xx10 : w2.cell? ⟨wr.heap.size, 10, none⟩ = some (.int .i64 x.m.ticket) := by rw [block_cell hb]; rfl
        have ff10 : w2.frozen? ⟨wr.heap.size, 10, none⟩ = false := block_free hb 10
        have xx11 : w2.cell? ⟨wr.heap.size, 11, none⟩ = some (.slice x.A x.m.told.length x.c) := by rw [block_cell hb]; rfl
        have ff11 : w2.frozen? ⟨wr.heap.size, 11, none⟩ = false := block_free hb 11
        have xx12 : w2.cell? ⟨wr.heap.size, 12, none⟩ = some (.slice x.B x.m.ops.length x.d) := by rw [block_cell hb]; rfl
        have ff12 : w2.frozen? ⟨wr.heap.size, 12, none⟩ = false := block_free hb 12
        have xx13 : w2.cell? ⟨wr.heap.size, 13, none⟩ = some (.int .i64 i) := by rw [block_cell hb]; rfl
        have ff13 : w2.frozen? ⟨wr.heap.size, 13, none⟩ = false := block_free hb 13
        have xx14 : w2.cell? ⟨wr.heap.size, 14, none⟩ = some (.int .i64 kk) := by rw [block_cell hb]; rfl
        have ff14 : w2.frozen? ⟨wr.heap.size, 14, none⟩ = false := block_free hb 14
        have hKq : Hid (Kept (· = wr.heap.size) w2 (((((((((((((((w2.setCell ⟨wr.heap.size, 0, none⟩ (.int .i64 kind)).setCell ⟨wr.heap.size, 1, none⟩ (.bool near)).setCell ⟨wr.heap.size, 2, none⟩ (.int .i64 x.m.kind)).setCell ⟨wr.heap.size, 3, none⟩ (.int .i64 x.m.from_)).setCell ⟨wr.heap.size, 4, none⟩ (.int .i64 x.m.to_)).setCell ⟨wr.heap.size, 5, none⟩ (.int .i64 x.m.g)).setCell ⟨wr.heap.size, 6, none⟩ (.int .i64 x.m.node)).setCell ⟨wr.heap.size, 7, none⟩ (.int .i64 x.m.try_)).setCell ⟨wr.heap.size, 8, none⟩ (.int .i64 x.m.low)).setCell ⟨wr.heap.size, 9, none⟩ (.int .i64 x.m.code)).setCell ⟨wr.heap.size, 10, none⟩ (.int .i64 x.m.ticket)).setCell ⟨wr.heap.size, 11, none⟩ (.slice x.A x.m.told.length x.c)).setCell ⟨wr.heap.size, 12, none⟩ (.slice x.B x.m.ops.length x.d)).setCell ⟨wr.heap.size, 13, none⟩ (.int .i64 i')).setCell ⟨wr.heap.size, 14, none⟩ (.int .i64 k'))) := Lib.hid (Kept.setCell (S := (· = wr.heap.size)) (p := ⟨wr.heap.size, 14, none⟩) (Kept.setCell (S := (· = wr.heap.size)) (p := ⟨wr.heap.size, 13, none⟩) (Kept.setCell (S := (· = wr.heap.size)) (p := ⟨wr.heap.size, 12, none⟩) (Kept.setCell (S := (· = wr.heap.size)) (p := ⟨wr.heap.size, 11, none⟩) (Kept.setCell (S := (· = wr.heap.size)) (p := ⟨wr.heap.size, 10, none⟩) (Kept.setCell (S := (· = wr.heap.size)) (p := ⟨wr.heap.size, 9, none⟩) (Kept.setCell (S := (· = wr.heap.size)) (p := ⟨wr.heap.size, 8, none⟩) (Kept.setCell (S := (· = wr.heap.size)) (p := ⟨wr.heap.size, 7, none⟩) (Kept.setCell (S := (· = wr.heap.size)) (p := ⟨wr.heap.size, 6, none⟩) (Kept.setCell (S := (· = wr.heap.size)) (p := ⟨wr.heap.size, 5, none⟩) (Kept.setCell (S := (· = wr.heap.size)) (p := ⟨wr.heap.size, 4, none⟩) (Kept.setCell (S := (· = wr.heap.size)) (p := ⟨wr.heap.size, 3, none⟩) (Kept.setCell (S := (· = wr.heap.size)) (p := ⟨wr.heap.size, 2, none⟩) (Kept.setCell (S := (· = wr.heap.size)) (p := ⟨wr.heap.size, 1, none⟩) (Kept.setCell (S := (· = wr.heap.size)) (p := ⟨wr.heap.size, 0, none⟩) (Kept.refl (· = wr.heap.size) w2) (.inl rfl) (.int .i64 kind)) (.inl rfl) (.bool near)) (.inl rfl) (.int .i64 x.m.kind)) (.inl rfl) (.int .i64 x.m.from_)) (.inl rfl) (.int .i64 x.m.to_)) (.inl rfl) (.int .i64 x.m.g)) (.inl rfl) (.int .i64 x.m.node)) (.inl rfl) (.int .i64 x.m.try_)) (.inl rfl) (.int .i64 x.m.low)) (.inl rfl) (.int .i64 x.m.code)) (.inl rfl) (.int .i64 x.m.ticket)) (.inl rfl) (.slice x.A x.m.told.length x.c)) (.inl rfl) (.slice x.B x.m.ops.length x.d)) (.inl rfl) (.int .i64 i')) (.inl rfl) (.int .i64 k'))
        clear hb
        go_wp2_with fail
        have hb := hb2.out
        clear xx0 ff0 xx1 ff1 xx2 ff2 xx3 ff3 xx4 ff4 xx5 ff5 xx6 ff6 xx7 ff7 xx8 ff8 xx9 ff9 xx10 ff10 xx11 ff11 xx12 ff12 xx13 ff13 xx14 ff14
        have hs0 : (w2.setCell ⟨wr.heap.size, 0, none⟩ (.int .i64 kind)).heap[wr.heap.size]? = some (.cells #[.int .i64 kind, .bool near, .int .i64 x.m.kind, .int .i64 x.m.from_, .int .i64 x.m.to_, .int .i64 x.m.g, .int .i64 x.m.node, .int .i64 x.m.try_, .int .i64 x.m.low, .int .i64 x.m.code, .int .i64 x.m.ticket, .slice x.A x.m.told.length x.c, .slice x.B x.m.ops.length x.d, .int .i64 i, .int .i64 kk] 48 (0, 0)) := block_setCell hb 0 _
        generalize w2.setCell ⟨wr.heap.size, 0, none⟩ (.int .i64 kind) = w2_1 at *
        have hs1 : (w2_1.setCell ⟨wr.heap.size, 1, none⟩ (.bool near)).heap[wr.heap.size]? = some (.cells #[.int .i64 kind, .bool near, .int .i64 x.m.kind, .int .i64 x.m.from_, .int .i64 x.m.to_, .int .i64 x.m.g, .int .i64 x.m.node, .int .i64 x.m.try_, .int .i64 x.m.low, .int .i64 x.m.code, .int .i64 x.m.ticket, .slice x.A x.m.told.length x.c, .slice x.B x.m.ops.length x.d, .int .i64 i, .int .i64 kk] 48 (0, 0)) := block_setCell hs0 1 _
        generalize w2_1.setCell ⟨wr.heap.size, 1, none⟩ (.bool near) = w2_2 at *
        have hs2 : (w2_2.setCell ⟨wr.heap.size, 2, none⟩ (.int .i64 x.m.kind)).heap[wr.heap.size]? = some (.cells #[.int .i64 kind, .bool near, .int .i64 x.m.kind, .int .i64 x.m.from_, .int .i64 x.m.to_, .int .i64 x.m.g, .int .i64 x.m.node, .int .i64 x.m.try_, .int .i64 x.m.low, .int .i64 x.m.code, .int .i64 x.m.ticket, .slice x.A x.m.told.length x.c, .slice x.B x.m.ops.length x.d, .int .i64 i, .int .i64 kk] 48 (0, 0)) := block_setCell hs1 2 _
        generalize w2_2.setCell ⟨wr.heap.size, 2, none⟩ (.int .i64 x.m.kind) = w2_3 at *
        have hs3 : (w2_3.setCell ⟨wr.heap.size, 3, none⟩ (.int .i64 x.m.from_)).heap[wr.heap.size]? = some (.cells #[.int .i64 kind, .bool near, .int .i64 x.m.kind, .int .i64 x.m.from_, .int .i64 x.m.to_, .int .i64 x.m.g, .int .i64 x.m.node, .int .i64 x.m.try_, .int .i64 x.m.low, .int .i64 x.m.code, .int .i64 x.m.ticket, .slice x.A x.m.told.length x.c, .slice x.B x.m.ops.length x.d, .int .i64 i, .int .i64 kk] 48 (0, 0)) := block_setCell hs2 3 _
        generalize w2_3.setCell ⟨wr.heap.size, 3, none⟩ (.int .i64 x.m.from_) = w2_4 at *
        have hs4 : (w2_4.setCell ⟨wr.heap.size, 4, none⟩ (.int .i64 x.m.to_)).heap[wr.heap.size]? = some (.cells #[.int .i64 kind, .bool near, .int .i64 x.m.kind, .int .i64 x.m.from_, .int .i64 x.m.to_, .int .i64 x.m.g, .int .i64 x.m.node, .int .i64 x.m.try_, .int .i64 x.m.low, .int .i64 x.m.code, .int .i64 x.m.ticket, .slice x.A x.m.told.length x.c, .slice x.B x.m.ops.length x.d, .int .i64 i, .int .i64 kk] 48 (0, 0)) := block_setCell hs3 4 _
        generalize w2_4.setCell ⟨wr.heap.size, 4, none⟩ (.int .i64 x.m.to_) = w2_5 at *
        have hs5 : (w2_5.setCell ⟨wr.heap.size, 5, none⟩ (.int .i64 x.m.g)).heap[wr.heap.size]? = some (.cells #[.int .i64 kind, .bool near, .int .i64 x.m.kind, .int .i64 x.m.from_, .int .i64 x.m.to_, .int .i64 x.m.g, .int .i64 x.m.node, .int .i64 x.m.try_, .int .i64 x.m.low, .int .i64 x.m.code, .int .i64 x.m.ticket, .slice x.A x.m.told.length x.c, .slice x.B x.m.ops.length x.d, .int .i64 i, .int .i64 kk] 48 (0, 0)) := block_setCell hs4 5 _
        generalize w2_5.setCell ⟨wr.heap.size, 5, none⟩ (.int .i64 x.m.g) = w2_6 at *
        have hs6 : (w2_6.setCell ⟨wr.heap.size, 6, none⟩ (.int .i64 x.m.node)).heap[wr.heap.size]? = some (.cells #[.int .i64 kind, .bool near, .int .i64 x.m.kind, .int .i64 x.m.from_, .int .i64 x.m.to_, .int .i64 x.m.g, .int .i64 x.m.node, .int .i64 x.m.try_, .int .i64 x.m.low, .int .i64 x.m.code, .int .i64 x.m.ticket, .slice x.A x.m.told.length x.c, .slice x.B x.m.ops.length x.d, .int .i64 i, .int .i64 kk] 48 (0, 0)) := block_setCell hs5 6 _
        generalize w2_6.setCell ⟨wr.heap.size, 6, none⟩ (.int .i64 x.m.node) = w2_7 at *
        have hs7 : (w2_7.setCell ⟨wr.heap.size, 7, none⟩ (.int .i64 x.m.try_)).heap[wr.heap.size]? = some (.cells #[.int .i64 kind, .bool near, .int .i64 x.m.kind, .int .i64 x.m.from_, .int .i64 x.m.to_, .int .i64 x.m.g, .int .i64 x.m.node, .int .i64 x.m.try_, .int .i64 x.m.low, .int .i64 x.m.code, .int .i64 x.m.ticket, .slice x.A x.m.told.length x.c, .slice x.B x.m.ops.length x.d, .int .i64 i, .int .i64 kk] 48 (0, 0)) := block_setCell hs6 7 _
        generalize w2_7.setCell ⟨wr.heap.size, 7, none⟩ (.int .i64 x.m.try_) = w2_8 at *
        have hs8 : (w2_8.setCell ⟨wr.heap.size, 8, none⟩ (.int .i64 x.m.low)).heap[wr.heap.size]? = some (.cells #[.int .i64 kind, .bool near, .int .i64 x.m.kind, .int .i64 x.m.from_, .int .i64 x.m.to_, .int .i64 x.m.g, .int .i64 x.m.node, .int .i64 x.m.try_, .int .i64 x.m.low, .int .i64 x.m.code, .int .i64 x.m.ticket, .slice x.A x.m.told.length x.c, .slice x.B x.m.ops.length x.d, .int .i64 i, .int .i64 kk] 48 (0, 0)) := block_setCell hs7 8 _
        generalize w2_8.setCell ⟨wr.heap.size, 8, none⟩ (.int .i64 x.m.low) = w2_9 at *
        have hs9 : (w2_9.setCell ⟨wr.heap.size, 9, none⟩ (.int .i64 x.m.code)).heap[wr.heap.size]? = some (.cells #[.int .i64 kind, .bool near, .int .i64 x.m.kind, .int .i64 x.m.from_, .int .i64 x.m.to_, .int .i64 x.m.g, .int .i64 x.m.node, .int .i64 x.m.try_, .int .i64 x.m.low, .int .i64 x.m.code, .int .i64 x.m.ticket, .slice x.A x.m.told.length x.c, .slice x.B x.m.ops.length x.d, .int .i64 i, .int .i64 kk] 48 (0, 0)) := block_setCell hs8 9 _
        generalize w2_9.setCell ⟨wr.heap.size, 9, none⟩ (.int .i64 x.m.code) = w2_10 at *
        have hs10 : (w2_10.setCell ⟨wr.heap.size, 10, none⟩ (.int .i64 x.m.ticket)).heap[wr.heap.size]? = some (.cells #[.int .i64 kind, .bool near, .int .i64 x.m.kind, .int .i64 x.m.from_, .int .i64 x.m.to_, .int .i64 x.m.g, .int .i64 x.m.node, .int .i64 x.m.try_, .int .i64 x.m.low, .int .i64 x.m.code, .int .i64 x.m.ticket, .slice x.A x.m.told.length x.c, .slice x.B x.m.ops.length x.d, .int .i64 i, .int .i64 kk] 48 (0, 0)) := block_setCell hs9 10 _
        generalize w2_10.setCell ⟨wr.heap.size, 10, none⟩ (.int .i64 x.m.ticket) = w2_11 at *
        have hs11 : (w2_11.setCell ⟨wr.heap.size, 11, none⟩ (.slice x.A x.m.told.length x.c)).heap[wr.heap.size]? = some (.cells #[.int .i64 kind, .bool near, .int .i64 x.m.kind, .int .i64 x.m.from_, .int .i64 x.m.to_, .int .i64 x.m.g, .int .i64 x.m.node, .int .i64 x.m.try_, .int .i64 x.m.low, .int .i64 x.m.code, .int .i64 x.m.ticket, .slice x.A x.m.told.length x.c, .slice x.B x.m.ops.length x.d, .int .i64 i, .int .i64 kk] 48 (0, 0)) := block_setCell hs10 11 _
        generalize w2_11.setCell ⟨wr.heap.size, 11, none⟩ (.slice x.A x.m.told.length x.c) = w2_12 at *
        have hs12 : (w2_12.setCell ⟨wr.heap.size, 12, none⟩ (.slice x.B x.m.ops.length x.d)).heap[wr.heap.size]? = some (.cells #[.int .i64 kind, .bool near, .int .i64 x.m.kind, .int .i64 x.m.from_, .int .i64 x.m.to_, .int .i64 x.m.g, .int .i64 x.m.node, .int .i64 x.m.try_, .int .i64 x.m.low, .int .i64 x.m.code, .int .i64 x.m.ticket, .slice x.A x.m.told.length x.c, .slice x.B x.m.ops.length x.d, .int .i64 i, .int .i64 kk] 48 (0, 0)) := block_setCell hs11 12 _
        generalize w2_12.setCell ⟨wr.heap.size, 12, none⟩ (.slice x.B x.m.ops.length x.d) = w2_13 at *
        have hs13 : (w2_13.setCell ⟨wr.heap.size, 13, none⟩ (.int .i64 i')).heap[wr.heap.size]? = some (.cells #[.int .i64 kind, .bool near, .int .i64 x.m.kind, .int .i64 x.m.from_, .int .i64 x.m.to_, .int .i64 x.m.g, .int .i64 x.m.node, .int .i64 x.m.try_, .int .i64 x.m.low, .int .i64 x.m.code, .int .i64 x.m.ticket, .slice x.A x.m.told.length x.c, .slice x.B x.m.ops.length x.d, .int .i64 i', .int .i64 kk] 48 (0, 0)) := block_setCell hs12 13 _
        generalize w2_13.setCell ⟨wr.heap.size, 13, none⟩ (.int .i64 i') = w2_14 at *
        have hs14 : (w2_14.setCell ⟨wr.heap.size, 14, none⟩ (.int .i64 k')).heap[wr.heap.size]? = some (.cells #[.int .i64 kind, .bool near, .int .i64 x.m.kind, .int .i64 x.m.from_, .int .i64 x.m.to_, .int .i64 x.m.g, .int .i64 x.m.node, .int .i64 x.m.try_, .int .i64 x.m.low, .int .i64 x.m.code, .int .i64 x.m.ticket, .slice x.A x.m.told.length x.c, .slice x.B x.m.ops.length x.d, .int .i64 i', .int .i64 k'] 48 (0, 0)) := block_setCell hs13 14 _
        generalize w2_14.setCell ⟨wr.heap.size, 14, none⟩ (.int .i64 k') = w2F at *

        have hWF := Lib.hid hs14
        clear hs0 hs1 hs2 hs3 hs4 hs5 hs6 hs7 hs8 hs9 hs10 hs11 hs12 hs13 hs14 hb
        have hI3 := Lib.hid (hI.out.store hB2.out hKq.out rfl hb2.out)
        refine (hCut.out w2F hI3.out.below).mono ?_
        rintro e w4 ⟨B', d', rfl, hF_, hB_⟩
        obtain ⟨m', hm'⟩ : ∃ m', m' = cutM x.m := ⟨_, rfl⟩
        rw [← hm'] at hF_ ⊢
        simp only [msgA]
        have hBa := below_alloc hB_ (.cells #[.int .i64 m'.kind, .int .i64 m'.from_, .int .i64 m'.to_, .int .i64 m'.g, .int .i64 m'.node, .int .i64 m'.try_, .int .i64 m'.low, .int .i64 m'.code, .int .i64 m'.ticket, .slice x.A m'.told.length x.c, .slice B' m'.ops.length d'] 31)
        have hI5 := Lib.hid (hI3.out.later hBa)
        have hF5 := Lib.hid (hF_.below (below_alloc (Below.refl _ w4) (.cells #[.int .i64 m'.kind, .int .i64 m'.from_, .int .i64 m'.to_, .int .i64 m'.g, .int .i64 m'.node, .int .i64 m'.try_, .int .i64 m'.low, .int .i64 m'.code, .int .i64 m'.ticket, .slice x.A m'.told.length x.c, .slice B' m'.ops.length d'] 31)))
        have hb7 := Lib.hid (block_below hBa hWF.out)
        have hb8 := Lib.hid (heap_alloc_new w4 (.cells #[.int .i64 m'.kind, .int .i64 m'.from_, .int .i64 m'.to_, .int .i64 m'.g, .int .i64 m'.node, .int .i64 m'.try_, .int .i64 m'.low, .int .i64 m'.code, .int .i64 m'.ticket, .slice x.A m'.told.length x.c, .slice B' m'.ops.length d'] 31))
        have z0 : (w4.alloc (.cells #[.int .i64 m'.kind, .int .i64 m'.from_, .int .i64 m'.to_, .int .i64 m'.g, .int .i64 m'.node, .int .i64 m'.try_, .int .i64 m'.low, .int .i64 m'.code, .int .i64 m'.ticket, .slice x.A m'.told.length x.c, .slice B' m'.ops.length d'] 31)).cell? ⟨wr.heap.size, 0, none⟩ = some (.int .i64 kind) := by rw [block_cell hb7.out]; rfl
        have z13 : (w4.alloc (.cells #[.int .i64 m'.kind, .int .i64 m'.from_, .int .i64 m'.to_, .int .i64 m'.g, .int .i64 m'.node, .int .i64 m'.try_, .int .i64 m'.low, .int .i64 m'.code, .int .i64 m'.ticket, .slice x.A m'.told.length x.c, .slice B' m'.ops.length d'] 31)).cell? ⟨wr.heap.size, 13, none⟩ = some (.int .i64 i') := by rw [block_cell hb7.out]; rfl
        have z14 : (w4.alloc (.cells #[.int .i64 m'.kind, .int .i64 m'.from_, .int .i64 m'.to_, .int .i64 m'.g, .int .i64 m'.node, .int .i64 m'.try_, .int .i64 m'.low, .int .i64 m'.code, .int .i64 m'.ticket, .slice x.A m'.told.length x.c, .slice B' m'.ops.length d'] 31)).cell? ⟨wr.heap.size, 14, none⟩ = some (.int .i64 k') := by rw [block_cell hb7.out]; rfl
        clear hF_ hB_ hm' hBa
        rcases kind_cases kind with rfl | rfl | rfl | rfl | rfl | rfl | rfl | rfl | rfl | rfl | ⟨e0, e1, e2, e3, e4, e5, e6, e7, e8, e11⟩
        · go_wp2_with fail
          generalize w4.alloc (.cells #[.int .i64 m'.kind, .int .i64 m'.from_, .int .i64 m'.to_, .int .i64 m'.g, .int .i64 m'.node, .int .i64 m'.try_, .int .i64 m'.low, .int .i64 m'.code, .int .i64 m'.ticket, .slice x.A m'.told.length x.c, .slice B' m'.ops.length d'] 31) = W5 at *
          refine (Ours_any m' x.A x.c B' d' W5).mono ?_
          rintro e w6 ⟨rfl, hB_⟩
          simp only [msgA]
          have hI6 := Lib.hid (hI5.out.later hB_)
          have hF6 := Lib.hid (hF5.out.below hB_)
          have hb6 := Lib.hid (block_below hB_ hb8.out)
          clear hB_
          go_wp2_with fail
          have hrow := Lib.hid (show RowAt (w6.alloc (.cells #[.int .i64 m'.kind, .int .i64 m'.from_, .int .i64 m'.to_, .int .i64 m'.g, .int .i64 m'.node, .int .i64 m'.try_, .int .i64 m'.low, .int .i64 m'.code, .int .i64 m'.ticket, .slice x.A m'.told.length x.c, .slice B' m'.ops.length d'] 37)) (some ⟨w6.heap.size, 0, none⟩) (mvsC [⟨m', x.A, x.c, B', d'⟩]) from RowAt.made rfl)
          have hbm := Lib.hid (heap_alloc_new w6 (.cells #[.int .i64 m'.kind, .int .i64 m'.from_, .int .i64 m'.to_, .int .i64 m'.g, .int .i64 m'.node, .int .i64 m'.try_, .int .i64 m'.low, .int .i64 m'.code, .int .i64 m'.ticket, .slice x.A m'.told.length x.c, .slice B' m'.ops.length d'] 37))
          have hBa := below_alloc (Below.refl _ w6) (.cells #[.int .i64 m'.kind, .int .i64 m'.from_, .int .i64 m'.to_, .int .i64 m'.g, .int .i64 m'.node, .int .i64 m'.try_, .int .i64 m'.low, .int .i64 m'.code, .int .i64 m'.ticket, .slice x.A m'.told.length x.c, .slice B' m'.ops.length d'] 37)
          have hI7 := Lib.hid (hI6.out.later hBa)
          have hF7 := Lib.hid (hF6.out.below hBa)
          have hb7 := Lib.hid (block_below hBa hb6.out)
          clear hBa
          generalize w6.alloc (.cells #[.int .i64 m'.kind, .int .i64 m'.from_, .int .i64 m'.to_, .int .i64 m'.g, .int .i64 m'.node, .int .i64 m'.try_, .int .i64 m'.low, .int .i64 m'.code, .int .i64 m'.ticket, .slice x.A m'.told.length x.c, .slice B' m'.ops.length d'] 37) = w7 at *
          have hS := Send_any p 100 ks [⟨m', x.A, x.c, B', d'⟩] (some ⟨w6.heap.size, 0, none⟩) 1 w7 (hH.out.1.below hI7.out.below) hI7.out.net hrow.out
            (fun ad h => by
              cases h
              rintro ⟨_, cur, T, fr, hb, hT⟩
              rw [hbm.out] at hb
              simp only [Option.some.injEq, Obj.cells.injEq] at hb
              obtain ⟨_, rfl, _⟩ := hb
              simp at hT)
            (fun y hy => by
              simp only [List.mem_cons, List.not_mem_nil, or_false] at hy
              subst hy
              exact ⟨hF7.out.r, hF7.out.fa.notNS (Nat.le_of_lt hp.out), hF7.out.fb.notNS (Nat.le_of_lt hp.out)⟩) (by simp; omega)
          cases hmay : mayM m'
          · rw [send_not (x := ⟨m', x.A, x.c, B', d'⟩) hmay, Int.sub_self] at hS
            have hSH := Lib.hid hS
            clear hS hmay
            refine hSH.out.mono ?_
            rintro e w8 ⟨rfl, hN_, hK_⟩
            have hI8 := Lib.hid (hI7.out.kept (Nat.le_of_lt hp.out) hN_ hK_ hI7.out.pk)
            clear hN_ hK_
            go_wp2_with fail
            first
              | exact ⟨⟨k + 1, S, ks, by omega, by go_num, by omega, by omega, by omega, hI8.out⟩, by simp [intOf]; omega⟩
              | (go_roundw; case rel => exact ⟨k + 1, S, ks, by omega, by go_num, by omega, by omega, by omega, hI8.out⟩; case measure => simp [intOf]; omega)
          · have hcnt : (((ks ++ [pkOf ⟨m', x.A, x.c, B', d'⟩]).length : Int) - ks.length) = 1 := by rw [List.length_append]; simp; omega
            rw [send_may (x := ⟨m', x.A, x.c, B', d'⟩) hmay (by omega), hcnt] at hS
            have hSH := Lib.hid hS
            have hOK : Hid (okM m') := Lib.hid ⟨hmay, hF7.out.r.nums.2.2.2.2.2.2.2.2, hF7.out.r.toldok, hF7.out.r.opsok⟩
            clear hS hmay hcnt
            refine hSH.out.mono ?_
            rintro e w8 ⟨rfl, hN_, hK_⟩
            have hF8 := hF7.out.kept (KeptM_of_N (Nat.le_of_lt hp.out) hK_)
            have hO8 := own_keptN hI7.out.own hK_ (by decide)
            have hM8 : ∀ x ∈ S, MsgF w8 W.heap.size x ∧ okM x.m := fun x hx => ⟨(hI7.out.msg x hx).1.kept (KeptM_of_N (Nat.le_of_lt hp.out) hK_), (hI7.out.msg x hx).2⟩
            have hB8 := KeptM_below hI7.out.below (KeptM_of_N (Nat.le_of_lt hp.out) hK_)
            have hb8' := (hK_.block w4.heap.size (lt_of_block hb7.out) (by
              rintro ⟨_, cur, T, fr, hb, hT⟩
              rw [hb7.out] at hb
              simp only [Option.some.injEq, Obj.cells.injEq] at hb
              obtain ⟨_, rfl, _⟩ := hb
              simp at hT)).trans hb7.out
            have yx0 : w8.cell? ⟨w4.heap.size, 0, none⟩ = some (.int .i64 m'.kind) := by rw [block_cell hb8']; rfl
            have yx1 : w8.cell? ⟨w4.heap.size, 1, none⟩ = some (.int .i64 m'.from_) := by rw [block_cell hb8']; rfl
            have yx2 : w8.cell? ⟨w4.heap.size, 2, none⟩ = some (.int .i64 m'.to_) := by rw [block_cell hb8']; rfl
            have yx3 : w8.cell? ⟨w4.heap.size, 3, none⟩ = some (.int .i64 m'.g) := by rw [block_cell hb8']; rfl
            have yx4 : w8.cell? ⟨w4.heap.size, 4, none⟩ = some (.int .i64 m'.node) := by rw [block_cell hb8']; rfl
            have yx5 : w8.cell? ⟨w4.heap.size, 5, none⟩ = some (.int .i64 m'.try_) := by rw [block_cell hb8']; rfl
            have yx6 : w8.cell? ⟨w4.heap.size, 6, none⟩ = some (.int .i64 m'.low) := by rw [block_cell hb8']; rfl
            have yx7 : w8.cell? ⟨w4.heap.size, 7, none⟩ = some (.int .i64 m'.code) := by rw [block_cell hb8']; rfl
            have yx8 : w8.cell? ⟨w4.heap.size, 8, none⟩ = some (.int .i64 m'.ticket) := by rw [block_cell hb8']; rfl
            have yx9 : w8.cell? ⟨w4.heap.size, 9, none⟩ = some (.slice x.A m'.told.length x.c) := by rw [block_cell hb8']; rfl
            have yx10 : w8.cell? ⟨w4.heap.size, 10, none⟩ = some (.slice B' m'.ops.length d') := by rw [block_cell hb8']; rfl
            have hBa := below_alloc (Below.refl _ w8) (.cells #[.int .i64 m'.kind, .int .i64 m'.from_, .int .i64 m'.to_, .int .i64 m'.g, .int .i64 m'.node, .int .i64 m'.try_, .int .i64 m'.low, .int .i64 m'.code, .int .i64 m'.ticket, .slice x.A m'.told.length x.c, .slice B' m'.ops.length d'] 31)
            have hN9 := Lib.hid (hN_.later hBa)
            have hO9 := Lib.hid (own_below hO8 hBa)
            have hM9 := Lib.hid (fun y hy => And.intro ((hM8 y hy).1.below hBa) (hM8 y hy).2)
            have hF9 := Lib.hid (hF8.below hBa)
            have hB9 := Lib.hid (bnext hB8 hBa)
            have hrow9 := Lib.hid (show RowAt (w8.alloc (.cells #[.int .i64 m'.kind, .int .i64 m'.from_, .int .i64 m'.to_, .int .i64 m'.g, .int .i64 m'.node, .int .i64 m'.try_, .int .i64 m'.low, .int .i64 m'.code, .int .i64 m'.ticket, .slice x.A m'.told.length x.c, .slice B' m'.ops.length d'] 31)) (some ⟨w8.heap.size, 0, none⟩) (mvC ⟨m', x.A, x.c, B', d'⟩) from RowAt.made rfl)
            have hby9 : Hid ((S.length + 1) * 120 ≤ 140737488355328) := Lib.hid (by omega)
            have hone := Lib.hid (mvC_one ⟨m', x.A, x.c, B', d'⟩)
            clear hN_ hK_ hF8 hO8 hM8 hB8 hBa hb8'
            go_wp2_with (at_builtin; refine list_of_wp rfl ?_; refine wp_append_row (.tmp 53) (.tmp 55) 22 rfl W.heap.size 31 (.agg #[.int .i64 0, .int .i64 0, .int .i64 0, .int .i64 0, .int .i64 0, .int .i64 0, .int .i64 0, .int .i64 0, .int .i64 0, .slice none 0 0, .slice none 0 0]) 11 120 Tryz.underlying22 Tryz.infoRM rfl (by decide) (by decide) (.slice As S.length cs) S.length (mvsC S) rfl hO9.out (some ⟨w8.heap.size, 0, none⟩) 1 1 (mvC ⟨m', x.A, x.c, B', d'⟩) rfl (by simp) (by decide) rfl hrow9.out hone.out hby9.out hB9.out.size ?_)
            intro v9 w9 hO9_ hG9_ _
            obtain ⟨A9, d9, rfl⟩ := own_slice hO9_
            have hIS := Lib.hid (CarInv.pushed hN9.out hO9.out hM9.out ⟨hF9.out, hOK.out⟩ hB9.out hI7.out.pk hO9_ hG9_)
            obtain ⟨S2, hS2⟩ : ∃ S2, S2 = S ++ [⟨m', x.A, x.c, B', d'⟩] := ⟨_, rfl⟩
            obtain ⟨ks2, hks2⟩ : ∃ ks2, ks2 = ks ++ [pkOf ⟨m', x.A, x.c, B', d'⟩] := ⟨_, rfl⟩
            rw [← hS2, ← hks2] at hIS
            have hl2 : S.length + 1 = S2.length := by rw [hS2]; simp
            have hl3 : ks2.length = ks.length + 1 := by rw [hks2]; simp
            rw [hl2]
            have hSk3 : S2.length ≤ k + 1 := by omega
            clear hO9_ hG9_ hS2 hks2 hl2 yx0 yx1 yx2 yx3 yx4 yx5 yx6 yx7 yx8 yx9 yx10
            go_wp2_with fail
            first
              | exact ⟨⟨k + 1, S2, ks2, by omega, by go_num, by omega, by omega, by omega, hIS.out⟩, by simp [intOf]; omega⟩
              | (go_roundw; case rel => exact ⟨k + 1, S2, ks2, by omega, by go_num, by omega, by omega, by omega, hIS.out⟩; case measure => simp [intOf]; omega)
        · go_wp2_with fail
          generalize w4.alloc (.cells #[.int .i64 m'.kind, .int .i64 m'.from_, .int .i64 m'.to_, .int .i64 m'.g, .int .i64 m'.node, .int .i64 m'.try_, .int .i64 m'.low, .int .i64 m'.code, .int .i64 m'.ticket, .slice x.A m'.told.length x.c, .slice B' m'.ops.length d'] 31) = W5 at *
          refine (Ours_any m' x.A x.c B' d' W5).mono ?_
          rintro e w6 ⟨rfl, hB_⟩
          simp only [msgA]
          have hI6 := Lib.hid (hI5.out.later hB_)
          have hF6 := Lib.hid (hF5.out.below hB_)
          have hb6 := Lib.hid (block_below hB_ hb8.out)
          clear hB_
          go_wp2_with fail
          have hrow := Lib.hid (show RowAt (w6.alloc (.cells #[.int .i64 m'.kind, .int .i64 m'.from_, .int .i64 m'.to_, .int .i64 m'.g, .int .i64 m'.node, .int .i64 m'.try_, .int .i64 m'.low, .int .i64 m'.code, .int .i64 m'.ticket, .slice x.A m'.told.length x.c, .slice B' m'.ops.length d'] 37)) (some ⟨w6.heap.size, 0, none⟩) (mvsC [⟨m', x.A, x.c, B', d'⟩]) from RowAt.made rfl)
          have hbm := Lib.hid (heap_alloc_new w6 (.cells #[.int .i64 m'.kind, .int .i64 m'.from_, .int .i64 m'.to_, .int .i64 m'.g, .int .i64 m'.node, .int .i64 m'.try_, .int .i64 m'.low, .int .i64 m'.code, .int .i64 m'.ticket, .slice x.A m'.told.length x.c, .slice B' m'.ops.length d'] 37))
          have hBa := below_alloc (Below.refl _ w6) (.cells #[.int .i64 m'.kind, .int .i64 m'.from_, .int .i64 m'.to_, .int .i64 m'.g, .int .i64 m'.node, .int .i64 m'.try_, .int .i64 m'.low, .int .i64 m'.code, .int .i64 m'.ticket, .slice x.A m'.told.length x.c, .slice B' m'.ops.length d'] 37)
          have hI7 := Lib.hid (hI6.out.later hBa)
          have hF7 := Lib.hid (hF6.out.below hBa)
          have hb7 := Lib.hid (block_below hBa hb6.out)
          clear hBa
          generalize w6.alloc (.cells #[.int .i64 m'.kind, .int .i64 m'.from_, .int .i64 m'.to_, .int .i64 m'.g, .int .i64 m'.node, .int .i64 m'.try_, .int .i64 m'.low, .int .i64 m'.code, .int .i64 m'.ticket, .slice x.A m'.told.length x.c, .slice B' m'.ops.length d'] 37) = w7 at *
          have hS := Send_any p 100 ks [⟨m', x.A, x.c, B', d'⟩] (some ⟨w6.heap.size, 0, none⟩) 1 w7 (hH.out.1.below hI7.out.below) hI7.out.net hrow.out
            (fun ad h => by
              cases h
              rintro ⟨_, cur, T, fr, hb, hT⟩
              rw [hbm.out] at hb
              simp only [Option.some.injEq, Obj.cells.injEq] at hb
              obtain ⟨_, rfl, _⟩ := hb
              simp at hT)
            (fun y hy => by
              simp only [List.mem_cons, List.not_mem_nil, or_false] at hy
              subst hy
              exact ⟨hF7.out.r, hF7.out.fa.notNS (Nat.le_of_lt hp.out), hF7.out.fb.notNS (Nat.le_of_lt hp.out)⟩) (by simp; omega)
          cases hmay : mayM m'
          · rw [send_not (x := ⟨m', x.A, x.c, B', d'⟩) hmay, Int.sub_self] at hS
            have hSH := Lib.hid hS
            clear hS hmay
            refine hSH.out.mono ?_
            rintro e w8 ⟨rfl, hN_, hK_⟩
            have hI8 := Lib.hid (hI7.out.kept (Nat.le_of_lt hp.out) hN_ hK_ hI7.out.pk)
            clear hN_ hK_
            go_wp2_with fail
            first
              | exact ⟨⟨k + 1, S, ks, by omega, by go_num, by omega, by omega, by omega, hI8.out⟩, by simp [intOf]; omega⟩
              | (go_roundw; case rel => exact ⟨k + 1, S, ks, by omega, by go_num, by omega, by omega, by omega, hI8.out⟩; case measure => simp [intOf]; omega)
          · have hcnt : (((ks ++ [pkOf ⟨m', x.A, x.c, B', d'⟩]).length : Int) - ks.length) = 1 := by rw [List.length_append]; simp; omega
            rw [send_may (x := ⟨m', x.A, x.c, B', d'⟩) hmay (by omega), hcnt] at hS
            have hSH := Lib.hid hS
            have hOK : Hid (okM m') := Lib.hid ⟨hmay, hF7.out.r.nums.2.2.2.2.2.2.2.2, hF7.out.r.toldok, hF7.out.r.opsok⟩
            clear hS hmay hcnt
            refine hSH.out.mono ?_
            rintro e w8 ⟨rfl, hN_, hK_⟩
            have hF8 := hF7.out.kept (KeptM_of_N (Nat.le_of_lt hp.out) hK_)
            have hO8 := own_keptN hI7.out.own hK_ (by decide)
            have hM8 : ∀ x ∈ S, MsgF w8 W.heap.size x ∧ okM x.m := fun x hx => ⟨(hI7.out.msg x hx).1.kept (KeptM_of_N (Nat.le_of_lt hp.out) hK_), (hI7.out.msg x hx).2⟩
            have hB8 := KeptM_below hI7.out.below (KeptM_of_N (Nat.le_of_lt hp.out) hK_)
            have hb8' := (hK_.block w4.heap.size (lt_of_block hb7.out) (by
              rintro ⟨_, cur, T, fr, hb, hT⟩
              rw [hb7.out] at hb
              simp only [Option.some.injEq, Obj.cells.injEq] at hb
              obtain ⟨_, rfl, _⟩ := hb
              simp at hT)).trans hb7.out
            have yx0 : w8.cell? ⟨w4.heap.size, 0, none⟩ = some (.int .i64 m'.kind) := by rw [block_cell hb8']; rfl
            have yx1 : w8.cell? ⟨w4.heap.size, 1, none⟩ = some (.int .i64 m'.from_) := by rw [block_cell hb8']; rfl
            have yx2 : w8.cell? ⟨w4.heap.size, 2, none⟩ = some (.int .i64 m'.to_) := by rw [block_cell hb8']; rfl
            have yx3 : w8.cell? ⟨w4.heap.size, 3, none⟩ = some (.int .i64 m'.g) := by rw [block_cell hb8']; rfl
            have yx4 : w8.cell? ⟨w4.heap.size, 4, none⟩ = some (.int .i64 m'.node) := by rw [block_cell hb8']; rfl
            have yx5 : w8.cell? ⟨w4.heap.size, 5, none⟩ = some (.int .i64 m'.try_) := by rw [block_cell hb8']; rfl
            have yx6 : w8.cell? ⟨w4.heap.size, 6, none⟩ = some (.int .i64 m'.low) := by rw [block_cell hb8']; rfl
            have yx7 : w8.cell? ⟨w4.heap.size, 7, none⟩ = some (.int .i64 m'.code) := by rw [block_cell hb8']; rfl
            have yx8 : w8.cell? ⟨w4.heap.size, 8, none⟩ = some (.int .i64 m'.ticket) := by rw [block_cell hb8']; rfl
            have yx9 : w8.cell? ⟨w4.heap.size, 9, none⟩ = some (.slice x.A m'.told.length x.c) := by rw [block_cell hb8']; rfl
            have yx10 : w8.cell? ⟨w4.heap.size, 10, none⟩ = some (.slice B' m'.ops.length d') := by rw [block_cell hb8']; rfl
            have hBa := below_alloc (Below.refl _ w8) (.cells #[.int .i64 m'.kind, .int .i64 m'.from_, .int .i64 m'.to_, .int .i64 m'.g, .int .i64 m'.node, .int .i64 m'.try_, .int .i64 m'.low, .int .i64 m'.code, .int .i64 m'.ticket, .slice x.A m'.told.length x.c, .slice B' m'.ops.length d'] 31)
            have hN9 := Lib.hid (hN_.later hBa)
            have hO9 := Lib.hid (own_below hO8 hBa)
            have hM9 := Lib.hid (fun y hy => And.intro ((hM8 y hy).1.below hBa) (hM8 y hy).2)
            have hF9 := Lib.hid (hF8.below hBa)
            have hB9 := Lib.hid (bnext hB8 hBa)
            have hrow9 := Lib.hid (show RowAt (w8.alloc (.cells #[.int .i64 m'.kind, .int .i64 m'.from_, .int .i64 m'.to_, .int .i64 m'.g, .int .i64 m'.node, .int .i64 m'.try_, .int .i64 m'.low, .int .i64 m'.code, .int .i64 m'.ticket, .slice x.A m'.told.length x.c, .slice B' m'.ops.length d'] 31)) (some ⟨w8.heap.size, 0, none⟩) (mvC ⟨m', x.A, x.c, B', d'⟩) from RowAt.made rfl)
            have hby9 : Hid ((S.length + 1) * 120 ≤ 140737488355328) := Lib.hid (by omega)
            have hone := Lib.hid (mvC_one ⟨m', x.A, x.c, B', d'⟩)
            clear hN_ hK_ hF8 hO8 hM8 hB8 hBa hb8'
            go_wp2_with (at_builtin; refine list_of_wp rfl ?_; refine wp_append_row (.tmp 53) (.tmp 55) 22 rfl W.heap.size 31 (.agg #[.int .i64 0, .int .i64 0, .int .i64 0, .int .i64 0, .int .i64 0, .int .i64 0, .int .i64 0, .int .i64 0, .int .i64 0, .slice none 0 0, .slice none 0 0]) 11 120 Tryz.underlying22 Tryz.infoRM rfl (by decide) (by decide) (.slice As S.length cs) S.length (mvsC S) rfl hO9.out (some ⟨w8.heap.size, 0, none⟩) 1 1 (mvC ⟨m', x.A, x.c, B', d'⟩) rfl (by simp) (by decide) rfl hrow9.out hone.out hby9.out hB9.out.size ?_)
            intro v9 w9 hO9_ hG9_ _
            obtain ⟨A9, d9, rfl⟩ := own_slice hO9_
            have hIS := Lib.hid (CarInv.pushed hN9.out hO9.out hM9.out ⟨hF9.out, hOK.out⟩ hB9.out hI7.out.pk hO9_ hG9_)
            obtain ⟨S2, hS2⟩ : ∃ S2, S2 = S ++ [⟨m', x.A, x.c, B', d'⟩] := ⟨_, rfl⟩
            obtain ⟨ks2, hks2⟩ : ∃ ks2, ks2 = ks ++ [pkOf ⟨m', x.A, x.c, B', d'⟩] := ⟨_, rfl⟩
            rw [← hS2, ← hks2] at hIS
            have hl2 : S.length + 1 = S2.length := by rw [hS2]; simp
            have hl3 : ks2.length = ks.length + 1 := by rw [hks2]; simp
            rw [hl2]
            have hSk3 : S2.length ≤ k + 1 := by omega
            clear hO9_ hG9_ hS2 hks2 hl2 yx0 yx1 yx2 yx3 yx4 yx5 yx6 yx7 yx8 yx9 yx10
            go_wp2_with fail
            first
              | exact ⟨⟨k + 1, S2, ks2, by omega, by go_num, by omega, by omega, by omega, hIS.out⟩, by simp [intOf]; omega⟩
              | (go_roundw; case rel => exact ⟨k + 1, S2, ks2, by omega, by go_num, by omega, by omega, by omega, hIS.out⟩; case measure => simp [intOf]; omega)
        · as_aux_lemma =>
            go_wp2_with fail
            generalize w4.alloc (.cells #[.int .i64 m'.kind, .int .i64 m'.from_, .int .i64 m'.to_, .int .i64 m'.g, .int .i64 m'.node, .int .i64 m'.try_, .int .i64 m'.low, .int .i64 m'.code, .int .i64 m'.ticket, .slice x.A m'.told.length x.c, .slice B' m'.ops.length d'] 31) = W5 at *
            refine (Packet_any p 100 ks i' W5 hI5.out.net).mono ?_
            rintro e w6 ⟨Ap, cp, rfl, hRp_, hB_⟩
            have hRp := Lib.hid hRp_
            have hBp := Lib.hid hB_
            clear hRp_ hB_
            go_wp2_with fail
            refine (dec_any S _ (bytesAt ks i') w6 hRp.out (hH.out.1.below (hI5.out.later hBp.out).below) (bytesAt_cases hI5.out.pk i') (bytesAt_len hI5.out.net i')).mono ?_
            rintro e w7 ⟨y, code, rfl, hcode_, hB_⟩
            simp only [msgA]
            have hBd := bnext hBp.out hB_
            have hBa := below_alloc hBd (.cells #[.int .i64 y.m.kind, .int .i64 y.m.from_, .int .i64 y.m.to_, .int .i64 y.m.g, .int .i64 y.m.node, .int .i64 y.m.try_, .int .i64 y.m.low, .int .i64 y.m.code, .int .i64 y.m.ticket, .slice y.A y.m.told.length y.c, .slice y.B y.m.ops.length y.d] 37)
            have hI8 := Lib.hid (hI5.out.later hBa)
            have hb7b := Lib.hid (block_below hBa hb7.out)
            have uz0 : (w7.alloc (.cells #[.int .i64 y.m.kind, .int .i64 y.m.from_, .int .i64 y.m.to_, .int .i64 y.m.g, .int .i64 y.m.node, .int .i64 y.m.try_, .int .i64 y.m.low, .int .i64 y.m.code, .int .i64 y.m.ticket, .slice y.A y.m.told.length y.c, .slice y.B y.m.ops.length y.d] 37)).cell? ⟨wr.heap.size, 0, none⟩ = some (.int .i64 2) := by rw [block_cell hb7b.out]; rfl
            have uz13 : (w7.alloc (.cells #[.int .i64 y.m.kind, .int .i64 y.m.from_, .int .i64 y.m.to_, .int .i64 y.m.g, .int .i64 y.m.node, .int .i64 y.m.try_, .int .i64 y.m.low, .int .i64 y.m.code, .int .i64 y.m.ticket, .slice y.A y.m.told.length y.c, .slice y.B y.m.ops.length y.d] 37)).cell? ⟨wr.heap.size, 13, none⟩ = some (.int .i64 i') := by rw [block_cell hb7b.out]; rfl
            have uz14 : (w7.alloc (.cells #[.int .i64 y.m.kind, .int .i64 y.m.from_, .int .i64 y.m.to_, .int .i64 y.m.g, .int .i64 y.m.node, .int .i64 y.m.try_, .int .i64 y.m.low, .int .i64 y.m.code, .int .i64 y.m.ticket, .slice y.A y.m.told.length y.c, .slice y.B y.m.ops.length y.d] 37)).cell? ⟨wr.heap.size, 14, none⟩ = some (.int .i64 k') := by rw [block_cell hb7b.out]; rfl
            have hcode := Lib.hid hcode_
            clear hB_ hBd hBa hRp hBp hcode_
            go_wp2_with fail
            generalize w7.alloc (.cells #[.int .i64 y.m.kind, .int .i64 y.m.from_, .int .i64 y.m.to_, .int .i64 y.m.g, .int .i64 y.m.node, .int .i64 y.m.try_, .int .i64 y.m.low, .int .i64 y.m.code, .int .i64 y.m.ticket, .slice y.A y.m.told.length y.c, .slice y.B y.m.ops.length y.d] 37) = W8 at *
            clear uz0 uz13 uz14
            refine (Deliver_step S p 100 ks i' W8 (hH.out.1.below hI8.out.below) hI8.out.net (by omega) hI8.out.pk).mono ?_
            rintro e w9 ⟨y2, code2, rfl, hM_, hst, hres_⟩
            simp only [msgA]
            obtain ⟨ks2, hI9_, hl9⟩ := hI8.out.step (Nat.le_of_lt hp.out) hst
            have hBa := below_alloc (Below.refl _ w9) (.cells #[.int .i64 y2.m.kind, .int .i64 y2.m.from_, .int .i64 y2.m.to_, .int .i64 y2.m.g, .int .i64 y2.m.node, .int .i64 y2.m.try_, .int .i64 y2.m.low, .int .i64 y2.m.code, .int .i64 y2.m.ticket, .slice y2.A y2.m.told.length y2.c, .slice y2.B y2.m.ops.length y2.d] 37)
            have hI10 := Lib.hid (hI9_.later hBa)
            have hM10 := Lib.hid (hM_.below hBa)
            have hb10 := Lib.hid (heap_alloc_new w9 (.cells #[.int .i64 y2.m.kind, .int .i64 y2.m.from_, .int .i64 y2.m.to_, .int .i64 y2.m.g, .int .i64 y2.m.node, .int .i64 y2.m.try_, .int .i64 y2.m.low, .int .i64 y2.m.code, .int .i64 y2.m.ticket, .slice y2.A y2.m.told.length y2.c, .slice y2.B y2.m.ops.length y2.d] 37))
            have hres := Lib.hid hres_
            clear hM_ hst hres_ hI9_ hBa
            go_wp2_with fail
            generalize w9.alloc (.cells #[.int .i64 y2.m.kind, .int .i64 y2.m.from_, .int .i64 y2.m.to_, .int .i64 y2.m.g, .int .i64 y2.m.node, .int .i64 y2.m.try_, .int .i64 y2.m.low, .int .i64 y2.m.code, .int .i64 y2.m.ticket, .slice y2.A y2.m.told.length y2.c, .slice y2.B y2.m.ops.length y2.d] 37) = w10 at *
            go_loopw [13, 77] (fun fo j wr => ∃ (n : Nat) (b : Bool), n ≤ S.length ∧ j = .int .i64 n ∧ fo = .bool b ∧ Hid ((∃ q, q < n ∧ ∃ xs, S[q]? = some xs ∧ y2.m = xs.m) → b = true) ∧ Below w10.heap.size w10 wr) (fun _ j _ => S.length - (intOf j).toNat)
            case atStart => exact ⟨0, false, by omega, rfl, rfl, Lib.hid (by rintro ⟨q, hq, _⟩; omega), Below.refl _ _⟩
            case round =>
              obtain ⟨n, b, hn, rfl, rfl, hfo, hBv_⟩ := hrel
              have hBv := Lib.hid hBv_
              clear hBv_
              by_cases hnl : n < S.length
              · obtain ⟨xs, hxs⟩ : ∃ xs, S[n]? = some xs := ⟨_, List.getElem?_eq_getElem hnl⟩
                have hIv := Lib.hid (hI10.out.later hBv.out)
                obtain ⟨gs, hgs⟩ : ∃ gs, As = some ⟨gs, 0, none⟩ := by
                  rcases hIv.out.own.2 with ⟨_, h'⟩ | ⟨g', cap', cur, h', _⟩
                  · omega
                  · cases h'; exact ⟨g', rfl⟩
                subst hgs
                have hce : ∀ j, j < 11 → wr.cell? ⟨gs, n * 11 + j, none⟩ = (mvC xs)[j]? := fun j hj => by
                  rw [hIv.out.own.cellAt _ (by omega)]
                  exact mvsC_get S n xs j hxs hj
                have sc0 : wr.cell? ⟨gs, n * 11, none⟩ = some (.int .i64 xs.m.kind) := hce 0 (by omega)
                have sc1 : wr.cell? ⟨gs, n * 11 + 1, none⟩ = some (.int .i64 xs.m.from_) := hce 1 (by omega)
                have sc2 : wr.cell? ⟨gs, n * 11 + 2, none⟩ = some (.int .i64 xs.m.to_) := hce 2 (by omega)
                have sc3 : wr.cell? ⟨gs, n * 11 + 3, none⟩ = some (.int .i64 xs.m.g) := hce 3 (by omega)
                have sc4 : wr.cell? ⟨gs, n * 11 + 4, none⟩ = some (.int .i64 xs.m.node) := hce 4 (by omega)
                have sc5 : wr.cell? ⟨gs, n * 11 + 5, none⟩ = some (.int .i64 xs.m.try_) := hce 5 (by omega)
                have sc6 : wr.cell? ⟨gs, n * 11 + 6, none⟩ = some (.int .i64 xs.m.low) := hce 6 (by omega)
                have sc7 : wr.cell? ⟨gs, n * 11 + 7, none⟩ = some (.int .i64 xs.m.code) := hce 7 (by omega)
                have sc8 : wr.cell? ⟨gs, n * 11 + 8, none⟩ = some (.int .i64 xs.m.ticket) := hce 8 (by omega)
                have sc9 : wr.cell? ⟨gs, n * 11 + 9, none⟩ = some (.slice xs.A xs.m.told.length xs.c) := hce 9 (by omega)
                have sc10 : wr.cell? ⟨gs, n * 11 + 10, none⟩ = some (.slice xs.B xs.m.ops.length xs.d) := hce 10 (by omega)
                clear hce
                have hBa := below_alloc (Below.refl _ wr) (.cells #[.int .i64 xs.m.kind, .int .i64 xs.m.from_, .int .i64 xs.m.to_, .int .i64 xs.m.g, .int .i64 xs.m.node, .int .i64 xs.m.try_, .int .i64 xs.m.low, .int .i64 xs.m.code, .int .i64 xs.m.ticket, .slice xs.A xs.m.told.length xs.c, .slice xs.B xs.m.ops.length xs.d] 31)
                have hb11 := Lib.hid (heap_alloc_new wr (.cells #[.int .i64 xs.m.kind, .int .i64 xs.m.from_, .int .i64 xs.m.to_, .int .i64 xs.m.g, .int .i64 xs.m.node, .int .i64 xs.m.try_, .int .i64 xs.m.low, .int .i64 xs.m.code, .int .i64 xs.m.ticket, .slice xs.A xs.m.told.length xs.c, .slice xs.B xs.m.ops.length xs.d] 31))
                have hB11 := Lib.hid (bnext hBv.out hBa)
                have hXS := Lib.hid hxs
                have hXR : Hid (MsgR (wr.alloc (.cells #[.int .i64 xs.m.kind, .int .i64 xs.m.from_, .int .i64 xs.m.to_, .int .i64 xs.m.g, .int .i64 xs.m.node, .int .i64 xs.m.try_, .int .i64 xs.m.low, .int .i64 xs.m.code, .int .i64 xs.m.ticket, .slice xs.A xs.m.told.length xs.c, .slice xs.B xs.m.ops.length xs.d] 31)) xs.m xs.A xs.c xs.B xs.d) := Lib.hid ((hIv.out.msg xs (List.mem_of_getElem? hxs)).1.r.below hBa)
                clear hBa hxs
                cases b
                · go_wp2_with fail
                  generalize wr.alloc (.cells #[.int .i64 xs.m.kind, .int .i64 xs.m.from_, .int .i64 xs.m.to_, .int .i64 xs.m.g, .int .i64 xs.m.node, .int .i64 xs.m.try_, .int .i64 xs.m.low, .int .i64 xs.m.code, .int .i64 xs.m.ticket, .slice xs.A xs.m.told.length xs.c, .slice xs.B xs.m.ops.length xs.d] 31) = w11 at *
                  clear sc0 sc1 sc2 sc3 sc4 sc5 sc6 sc7 sc8 sc9 sc10
                  have hSf : Hid (∀ V : World, Below w11.heap.size w11 V → V.cell? ⟨w9.heap.size, 0, none⟩ = some (.int .i64 y2.m.kind) ∧ V.cell? ⟨w9.heap.size, 1, none⟩ = some (.int .i64 y2.m.from_) ∧ V.cell? ⟨w9.heap.size, 2, none⟩ = some (.int .i64 y2.m.to_) ∧ V.cell? ⟨w9.heap.size, 3, none⟩ = some (.int .i64 y2.m.g) ∧ V.cell? ⟨w9.heap.size, 4, none⟩ = some (.int .i64 y2.m.node) ∧ V.cell? ⟨w9.heap.size, 5, none⟩ = some (.int .i64 y2.m.try_) ∧ V.cell? ⟨w9.heap.size, 6, none⟩ = some (.int .i64 y2.m.low) ∧ V.cell? ⟨w9.heap.size, 7, none⟩ = some (.int .i64 y2.m.code) ∧ V.cell? ⟨w9.heap.size, 8, none⟩ = some (.int .i64 y2.m.ticket) ∧ V.cell? ⟨w9.heap.size, 9, none⟩ = some (.slice y2.A y2.m.told.length y2.c) ∧ V.cell? ⟨w9.heap.size, 10, none⟩ = some (.slice y2.B y2.m.ops.length y2.d) ∧ V.cell? ⟨wr.heap.size, 0, none⟩ = some (.int .i64 xs.m.kind) ∧ V.cell? ⟨wr.heap.size, 1, none⟩ = some (.int .i64 xs.m.from_) ∧ V.cell? ⟨wr.heap.size, 2, none⟩ = some (.int .i64 xs.m.to_) ∧ V.cell? ⟨wr.heap.size, 3, none⟩ = some (.int .i64 xs.m.g) ∧ V.cell? ⟨wr.heap.size, 4, none⟩ = some (.int .i64 xs.m.node) ∧ V.cell? ⟨wr.heap.size, 5, none⟩ = some (.int .i64 xs.m.try_) ∧ V.cell? ⟨wr.heap.size, 6, none⟩ = some (.int .i64 xs.m.low) ∧ V.cell? ⟨wr.heap.size, 7, none⟩ = some (.int .i64 xs.m.code) ∧ V.cell? ⟨wr.heap.size, 8, none⟩ = some (.int .i64 xs.m.ticket) ∧ V.cell? ⟨wr.heap.size, 9, none⟩ = some (.slice xs.A xs.m.told.length xs.c) ∧ V.cell? ⟨wr.heap.size, 10, none⟩ = some (.slice xs.B xs.m.ops.length xs.d)) := Lib.hid (fun V hb => by
                    have e1 := block_below (bnext hB11.out hb) hb10.out
                    have e2 := block_below hb hb11.out
                    exact ⟨by rw [block_cell e1]; rfl, by rw [block_cell e1]; rfl, by rw [block_cell e1]; rfl, by rw [block_cell e1]; rfl, by rw [block_cell e1]; rfl, by rw [block_cell e1]; rfl, by rw [block_cell e1]; rfl, by rw [block_cell e1]; rfl, by rw [block_cell e1]; rfl, by rw [block_cell e1]; rfl, by rw [block_cell e1]; rfl, by rw [block_cell e2]; rfl, by rw [block_cell e2]; rfl, by rw [block_cell e2]; rfl, by rw [block_cell e2]; rfl, by rw [block_cell e2]; rfl, by rw [block_cell e2]; rfl, by rw [block_cell e2]; rfl, by rw [block_cell e2]; rfl, by rw [block_cell e2]; rfl, by rw [block_cell e2]; rfl, by rw [block_cell e2]; rfl⟩)
                  obtain ⟨s0, s1, s2, s3, s4, s5, s6, s7, s8, s9, s10, s11, s12, s13, s14, s15, s16, s17, s18, s19, s20, s21⟩ := hSf.out w11 (Below.refl _ _)
                  have hBd := Lib.hid (Below.refl w11.heap.size w11).drew
                  go_region_held3 (fun V => V.cell? ⟨w9.heap.size, 0, none⟩ = some (.int .i64 y2.m.kind) ∧ V.cell? ⟨w9.heap.size, 1, none⟩ = some (.int .i64 y2.m.from_) ∧ V.cell? ⟨w9.heap.size, 2, none⟩ = some (.int .i64 y2.m.to_) ∧ V.cell? ⟨w9.heap.size, 3, none⟩ = some (.int .i64 y2.m.g) ∧ V.cell? ⟨w9.heap.size, 4, none⟩ = some (.int .i64 y2.m.node) ∧ V.cell? ⟨w9.heap.size, 5, none⟩ = some (.int .i64 y2.m.try_) ∧ V.cell? ⟨w9.heap.size, 6, none⟩ = some (.int .i64 y2.m.low) ∧ V.cell? ⟨w9.heap.size, 7, none⟩ = some (.int .i64 y2.m.code) ∧ V.cell? ⟨w9.heap.size, 8, none⟩ = some (.int .i64 y2.m.ticket) ∧ V.cell? ⟨w9.heap.size, 9, none⟩ = some (.slice y2.A y2.m.told.length y2.c) ∧ V.cell? ⟨w9.heap.size, 10, none⟩ = some (.slice y2.B y2.m.ops.length y2.d) ∧ V.cell? ⟨wr.heap.size, 0, none⟩ = some (.int .i64 xs.m.kind) ∧ V.cell? ⟨wr.heap.size, 1, none⟩ = some (.int .i64 xs.m.from_) ∧ V.cell? ⟨wr.heap.size, 2, none⟩ = some (.int .i64 xs.m.to_) ∧ V.cell? ⟨wr.heap.size, 3, none⟩ = some (.int .i64 xs.m.g) ∧ V.cell? ⟨wr.heap.size, 4, none⟩ = some (.int .i64 xs.m.node) ∧ V.cell? ⟨wr.heap.size, 5, none⟩ = some (.int .i64 xs.m.try_) ∧ V.cell? ⟨wr.heap.size, 6, none⟩ = some (.int .i64 xs.m.low) ∧ V.cell? ⟨wr.heap.size, 7, none⟩ = some (.int .i64 xs.m.code) ∧ V.cell? ⟨wr.heap.size, 8, none⟩ = some (.int .i64 xs.m.ticket) ∧ V.cell? ⟨wr.heap.size, 9, none⟩ = some (.slice xs.A xs.m.told.length xs.c) ∧ V.cell? ⟨wr.heap.size, 10, none⟩ = some (.slice xs.B xs.m.ops.length xs.d))
                    (first | exact hSf.out _ hB12.out | exact hSf.out _ hB13.out | exact hSf.out _ hBd.out | go_keep)
                    ((first
                      | (go_at_call 13; refine (Plain_any y2.m y2.A y2.c y2.B y2.d _).mono ?_; rintro e w12 ⟨rfl, hB_⟩; simp only [msgA]; have hB12 := Lib.hid (bnext hBd.out hB_); clear hB_)
                      | (go_at_call 12; refine (Same_any y2.m y2.A y2.c y2.B y2.d xs.m xs.A xs.c xs.B xs.d _ (hM10.out.below (bnext hB11.out hB12.out)) (hXR.out.below hB12.out)).mono ?_; rintro e w13 ⟨b, rfl, hbt_, hB_⟩; have hbt := Lib.hid hbt_; have hB13 := Lib.hid (bnext hB12.out hB_); clear hB_ hbt_)))
                  all_goals
                    clear s0 s1 s2 s3 s4 s5 s6 s7 s8 s9 s10 s11 s12 s13 s14 s15 s16 s17 s18 s19 s20 s21
                    go_wp2_with fail
                    go_roundw
                    case rel =>
                      refine ⟨n + 1, b, by omega, by go_num, rfl, Lib.hid ?_, bnext hB11.out hB13.out⟩
                      rintro ⟨q, hq, xq, hxq, hyq⟩
                      by_cases hqn : q = n
                      · subst hqn
                        rw [hXS.out] at hxq
                        cases hxq
                        exact hbt.out.2 hyq
                      · exact absurd (hfo.out ⟨q, by omega, xq, hxq, hyq⟩) (by simp)
                    case measure => simp [intOf]; omega
                · go_wp2_with fail
                  go_quiet (fail)
                  go_wp2_with fail
                  go_roundw
                  case rel => exact ⟨n + 1, true, by omega, by go_num, rfl, Lib.hid (fun _ => rfl), bnext hB11.out (below_drewN (Below.refl _ _) nq)⟩
                  case measure => simp [intOf]; omega
              · have hIv := Lib.hid (hI10.out.later hBv.out)
                by_cases hc2 : code2 = 0
                · obtain ⟨hg, xq, hxq, hyq⟩ := hres.out.resolve_left (by simp [hc2])
                  have hc0 : code = 0 := by
                    rcases hcode.out with ⟨h, _⟩ | ⟨_, h⟩
                    · exact h
                    · exact absurd h (good_not hg)
                  obtain ⟨q, hq, hqe⟩ := List.getElem_of_mem hxq
                  have hbt : b = true := hfo.out ⟨q, by omega, xq, by rw [List.getElem?_eq_getElem hq, hqe], hyq⟩
                  subst hc2 hc0 hbt
                  clear hg hxq hyq hqe
                  go_wp2_with fail
                  first
                    | exact ⟨⟨k + 1, S, ks2, by omega, by go_num, by omega, by omega, by omega, hIv.out⟩, by simp [intOf]; omega⟩
                    | (go_roundw; case rel => exact ⟨k + 1, S, ks2, by omega, by go_num, by omega, by omega, by omega, hIv.out⟩; case measure => simp [intOf]; omega)
                · have dc : (code2 == 0) = false := by simpa using hc2
                  go_wp2_with fail
                  first
                    | exact ⟨⟨k + 1, S, ks2, by omega, by go_num, by omega, by omega, by omega, hIv.out⟩, by simp [intOf]; omega⟩
                    | (go_roundw; case rel => exact ⟨k + 1, S, ks2, by omega, by go_num, by omega, by omega, by omega, hIv.out⟩; case measure => simp [intOf]; omega)
        · as_aux_lemma =>
            go_wp2_with fail
            generalize w4.alloc (.cells #[.int .i64 m'.kind, .int .i64 m'.from_, .int .i64 m'.to_, .int .i64 m'.g, .int .i64 m'.node, .int .i64 m'.try_, .int .i64 m'.low, .int .i64 m'.code, .int .i64 m'.ticket, .slice x.A m'.told.length x.c, .slice B' m'.ops.length d'] 31) = W5 at *
            refine (Packet_any p 100 ks i' W5 hI5.out.net).mono ?_
            rintro e w6 ⟨Ap, cp, rfl, hRp_, hB_⟩
            have hRp := Lib.hid hRp_
            have hBp := Lib.hid hB_
            clear hRp_ hB_
            go_wp2_with fail
            refine (dec_any S _ (bytesAt ks i') w6 hRp.out (hH.out.1.below (hI5.out.later hBp.out).below) (bytesAt_cases hI5.out.pk i') (bytesAt_len hI5.out.net i')).mono ?_
            rintro e w7 ⟨y, code, rfl, hcode_, hB_⟩
            simp only [msgA]
            have hBd := bnext hBp.out hB_
            have hBa := below_alloc hBd (.cells #[.int .i64 y.m.kind, .int .i64 y.m.from_, .int .i64 y.m.to_, .int .i64 y.m.g, .int .i64 y.m.node, .int .i64 y.m.try_, .int .i64 y.m.low, .int .i64 y.m.code, .int .i64 y.m.ticket, .slice y.A y.m.told.length y.c, .slice y.B y.m.ops.length y.d] 37)
            have hI8 := Lib.hid (hI5.out.later hBa)
            have hb7b := Lib.hid (block_below hBa hb7.out)
            have uz0 : (w7.alloc (.cells #[.int .i64 y.m.kind, .int .i64 y.m.from_, .int .i64 y.m.to_, .int .i64 y.m.g, .int .i64 y.m.node, .int .i64 y.m.try_, .int .i64 y.m.low, .int .i64 y.m.code, .int .i64 y.m.ticket, .slice y.A y.m.told.length y.c, .slice y.B y.m.ops.length y.d] 37)).cell? ⟨wr.heap.size, 0, none⟩ = some (.int .i64 3) := by rw [block_cell hb7b.out]; rfl
            have uz13 : (w7.alloc (.cells #[.int .i64 y.m.kind, .int .i64 y.m.from_, .int .i64 y.m.to_, .int .i64 y.m.g, .int .i64 y.m.node, .int .i64 y.m.try_, .int .i64 y.m.low, .int .i64 y.m.code, .int .i64 y.m.ticket, .slice y.A y.m.told.length y.c, .slice y.B y.m.ops.length y.d] 37)).cell? ⟨wr.heap.size, 13, none⟩ = some (.int .i64 i') := by rw [block_cell hb7b.out]; rfl
            have uz14 : (w7.alloc (.cells #[.int .i64 y.m.kind, .int .i64 y.m.from_, .int .i64 y.m.to_, .int .i64 y.m.g, .int .i64 y.m.node, .int .i64 y.m.try_, .int .i64 y.m.low, .int .i64 y.m.code, .int .i64 y.m.ticket, .slice y.A y.m.told.length y.c, .slice y.B y.m.ops.length y.d] 37)).cell? ⟨wr.heap.size, 14, none⟩ = some (.int .i64 k') := by rw [block_cell hb7b.out]; rfl
            have hcode := Lib.hid hcode_
            clear hB_ hBd hBa hRp hBp hcode_
            go_wp2_with fail
            generalize w7.alloc (.cells #[.int .i64 y.m.kind, .int .i64 y.m.from_, .int .i64 y.m.to_, .int .i64 y.m.g, .int .i64 y.m.node, .int .i64 y.m.try_, .int .i64 y.m.low, .int .i64 y.m.code, .int .i64 y.m.ticket, .slice y.A y.m.told.length y.c, .slice y.B y.m.ops.length y.d] 37) = W8 at *
            clear uz0 uz13 uz14
            refine (Deliver_step S p 100 ks i' W8 (hH.out.1.below hI8.out.below) hI8.out.net (by omega) hI8.out.pk).mono ?_
            rintro e w9 ⟨y2, code2, rfl, hM_, hst, hres_⟩
            simp only [msgA]
            obtain ⟨ks2, hI9_, hl9⟩ := hI8.out.step (Nat.le_of_lt hp.out) hst
            have hBa := below_alloc (Below.refl _ w9) (.cells #[.int .i64 y2.m.kind, .int .i64 y2.m.from_, .int .i64 y2.m.to_, .int .i64 y2.m.g, .int .i64 y2.m.node, .int .i64 y2.m.try_, .int .i64 y2.m.low, .int .i64 y2.m.code, .int .i64 y2.m.ticket, .slice y2.A y2.m.told.length y2.c, .slice y2.B y2.m.ops.length y2.d] 37)
            have hI10 := Lib.hid (hI9_.later hBa)
            have hM10 := Lib.hid (hM_.below hBa)
            have hb10 := Lib.hid (heap_alloc_new w9 (.cells #[.int .i64 y2.m.kind, .int .i64 y2.m.from_, .int .i64 y2.m.to_, .int .i64 y2.m.g, .int .i64 y2.m.node, .int .i64 y2.m.try_, .int .i64 y2.m.low, .int .i64 y2.m.code, .int .i64 y2.m.ticket, .slice y2.A y2.m.told.length y2.c, .slice y2.B y2.m.ops.length y2.d] 37))
            have hres := Lib.hid hres_
            clear hM_ hst hres_ hI9_ hBa
            go_wp2_with fail
            generalize w9.alloc (.cells #[.int .i64 y2.m.kind, .int .i64 y2.m.from_, .int .i64 y2.m.to_, .int .i64 y2.m.g, .int .i64 y2.m.node, .int .i64 y2.m.try_, .int .i64 y2.m.low, .int .i64 y2.m.code, .int .i64 y2.m.ticket, .slice y2.A y2.m.told.length y2.c, .slice y2.B y2.m.ops.length y2.d] 37) = w10 at *
            go_loopw [13, 77] (fun fo j wr => ∃ (n : Nat) (b : Bool), n ≤ S.length ∧ j = .int .i64 n ∧ fo = .bool b ∧ Hid ((∃ q, q < n ∧ ∃ xs, S[q]? = some xs ∧ y2.m = xs.m) → b = true) ∧ Below w10.heap.size w10 wr) (fun _ j _ => S.length - (intOf j).toNat)
            case atStart => exact ⟨0, false, by omega, rfl, rfl, Lib.hid (by rintro ⟨q, hq, _⟩; omega), Below.refl _ _⟩
            case round =>
              obtain ⟨n, b, hn, rfl, rfl, hfo, hBv_⟩ := hrel
              have hBv := Lib.hid hBv_
              clear hBv_
              by_cases hnl : n < S.length
              · obtain ⟨xs, hxs⟩ : ∃ xs, S[n]? = some xs := ⟨_, List.getElem?_eq_getElem hnl⟩
                have hIv := Lib.hid (hI10.out.later hBv.out)
                obtain ⟨gs, hgs⟩ : ∃ gs, As = some ⟨gs, 0, none⟩ := by
                  rcases hIv.out.own.2 with ⟨_, h'⟩ | ⟨g', cap', cur, h', _⟩
                  · omega
                  · cases h'; exact ⟨g', rfl⟩
                subst hgs
                have hce : ∀ j, j < 11 → wr.cell? ⟨gs, n * 11 + j, none⟩ = (mvC xs)[j]? := fun j hj => by
                  rw [hIv.out.own.cellAt _ (by omega)]
                  exact mvsC_get S n xs j hxs hj
                have sc0 : wr.cell? ⟨gs, n * 11, none⟩ = some (.int .i64 xs.m.kind) := hce 0 (by omega)
                have sc1 : wr.cell? ⟨gs, n * 11 + 1, none⟩ = some (.int .i64 xs.m.from_) := hce 1 (by omega)
                have sc2 : wr.cell? ⟨gs, n * 11 + 2, none⟩ = some (.int .i64 xs.m.to_) := hce 2 (by omega)
                have sc3 : wr.cell? ⟨gs, n * 11 + 3, none⟩ = some (.int .i64 xs.m.g) := hce 3 (by omega)
                have sc4 : wr.cell? ⟨gs, n * 11 + 4, none⟩ = some (.int .i64 xs.m.node) := hce 4 (by omega)
                have sc5 : wr.cell? ⟨gs, n * 11 + 5, none⟩ = some (.int .i64 xs.m.try_) := hce 5 (by omega)
                have sc6 : wr.cell? ⟨gs, n * 11 + 6, none⟩ = some (.int .i64 xs.m.low) := hce 6 (by omega)
                have sc7 : wr.cell? ⟨gs, n * 11 + 7, none⟩ = some (.int .i64 xs.m.code) := hce 7 (by omega)
                have sc8 : wr.cell? ⟨gs, n * 11 + 8, none⟩ = some (.int .i64 xs.m.ticket) := hce 8 (by omega)
                have sc9 : wr.cell? ⟨gs, n * 11 + 9, none⟩ = some (.slice xs.A xs.m.told.length xs.c) := hce 9 (by omega)
                have sc10 : wr.cell? ⟨gs, n * 11 + 10, none⟩ = some (.slice xs.B xs.m.ops.length xs.d) := hce 10 (by omega)
                clear hce
                have hBa := below_alloc (Below.refl _ wr) (.cells #[.int .i64 xs.m.kind, .int .i64 xs.m.from_, .int .i64 xs.m.to_, .int .i64 xs.m.g, .int .i64 xs.m.node, .int .i64 xs.m.try_, .int .i64 xs.m.low, .int .i64 xs.m.code, .int .i64 xs.m.ticket, .slice xs.A xs.m.told.length xs.c, .slice xs.B xs.m.ops.length xs.d] 31)
                have hb11 := Lib.hid (heap_alloc_new wr (.cells #[.int .i64 xs.m.kind, .int .i64 xs.m.from_, .int .i64 xs.m.to_, .int .i64 xs.m.g, .int .i64 xs.m.node, .int .i64 xs.m.try_, .int .i64 xs.m.low, .int .i64 xs.m.code, .int .i64 xs.m.ticket, .slice xs.A xs.m.told.length xs.c, .slice xs.B xs.m.ops.length xs.d] 31))
                have hB11 := Lib.hid (bnext hBv.out hBa)
                have hXS := Lib.hid hxs
                have hXR : Hid (MsgR (wr.alloc (.cells #[.int .i64 xs.m.kind, .int .i64 xs.m.from_, .int .i64 xs.m.to_, .int .i64 xs.m.g, .int .i64 xs.m.node, .int .i64 xs.m.try_, .int .i64 xs.m.low, .int .i64 xs.m.code, .int .i64 xs.m.ticket, .slice xs.A xs.m.told.length xs.c, .slice xs.B xs.m.ops.length xs.d] 31)) xs.m xs.A xs.c xs.B xs.d) := Lib.hid ((hIv.out.msg xs (List.mem_of_getElem? hxs)).1.r.below hBa)
                clear hBa hxs
                cases b
                · go_wp2_with fail
                  generalize wr.alloc (.cells #[.int .i64 xs.m.kind, .int .i64 xs.m.from_, .int .i64 xs.m.to_, .int .i64 xs.m.g, .int .i64 xs.m.node, .int .i64 xs.m.try_, .int .i64 xs.m.low, .int .i64 xs.m.code, .int .i64 xs.m.ticket, .slice xs.A xs.m.told.length xs.c, .slice xs.B xs.m.ops.length xs.d] 31) = w11 at *
                  clear sc0 sc1 sc2 sc3 sc4 sc5 sc6 sc7 sc8 sc9 sc10
                  have hSf : Hid (∀ V : World, Below w11.heap.size w11 V → V.cell? ⟨w9.heap.size, 0, none⟩ = some (.int .i64 y2.m.kind) ∧ V.cell? ⟨w9.heap.size, 1, none⟩ = some (.int .i64 y2.m.from_) ∧ V.cell? ⟨w9.heap.size, 2, none⟩ = some (.int .i64 y2.m.to_) ∧ V.cell? ⟨w9.heap.size, 3, none⟩ = some (.int .i64 y2.m.g) ∧ V.cell? ⟨w9.heap.size, 4, none⟩ = some (.int .i64 y2.m.node) ∧ V.cell? ⟨w9.heap.size, 5, none⟩ = some (.int .i64 y2.m.try_) ∧ V.cell? ⟨w9.heap.size, 6, none⟩ = some (.int .i64 y2.m.low) ∧ V.cell? ⟨w9.heap.size, 7, none⟩ = some (.int .i64 y2.m.code) ∧ V.cell? ⟨w9.heap.size, 8, none⟩ = some (.int .i64 y2.m.ticket) ∧ V.cell? ⟨w9.heap.size, 9, none⟩ = some (.slice y2.A y2.m.told.length y2.c) ∧ V.cell? ⟨w9.heap.size, 10, none⟩ = some (.slice y2.B y2.m.ops.length y2.d) ∧ V.cell? ⟨wr.heap.size, 0, none⟩ = some (.int .i64 xs.m.kind) ∧ V.cell? ⟨wr.heap.size, 1, none⟩ = some (.int .i64 xs.m.from_) ∧ V.cell? ⟨wr.heap.size, 2, none⟩ = some (.int .i64 xs.m.to_) ∧ V.cell? ⟨wr.heap.size, 3, none⟩ = some (.int .i64 xs.m.g) ∧ V.cell? ⟨wr.heap.size, 4, none⟩ = some (.int .i64 xs.m.node) ∧ V.cell? ⟨wr.heap.size, 5, none⟩ = some (.int .i64 xs.m.try_) ∧ V.cell? ⟨wr.heap.size, 6, none⟩ = some (.int .i64 xs.m.low) ∧ V.cell? ⟨wr.heap.size, 7, none⟩ = some (.int .i64 xs.m.code) ∧ V.cell? ⟨wr.heap.size, 8, none⟩ = some (.int .i64 xs.m.ticket) ∧ V.cell? ⟨wr.heap.size, 9, none⟩ = some (.slice xs.A xs.m.told.length xs.c) ∧ V.cell? ⟨wr.heap.size, 10, none⟩ = some (.slice xs.B xs.m.ops.length xs.d)) := Lib.hid (fun V hb => by
                    have e1 := block_below (bnext hB11.out hb) hb10.out
                    have e2 := block_below hb hb11.out
                    exact ⟨by rw [block_cell e1]; rfl, by rw [block_cell e1]; rfl, by rw [block_cell e1]; rfl, by rw [block_cell e1]; rfl, by rw [block_cell e1]; rfl, by rw [block_cell e1]; rfl, by rw [block_cell e1]; rfl, by rw [block_cell e1]; rfl, by rw [block_cell e1]; rfl, by rw [block_cell e1]; rfl, by rw [block_cell e1]; rfl, by rw [block_cell e2]; rfl, by rw [block_cell e2]; rfl, by rw [block_cell e2]; rfl, by rw [block_cell e2]; rfl, by rw [block_cell e2]; rfl, by rw [block_cell e2]; rfl, by rw [block_cell e2]; rfl, by rw [block_cell e2]; rfl, by rw [block_cell e2]; rfl, by rw [block_cell e2]; rfl, by rw [block_cell e2]; rfl⟩)
                  obtain ⟨s0, s1, s2, s3, s4, s5, s6, s7, s8, s9, s10, s11, s12, s13, s14, s15, s16, s17, s18, s19, s20, s21⟩ := hSf.out w11 (Below.refl _ _)
                  have hBd := Lib.hid (Below.refl w11.heap.size w11).drew
                  go_region_held3 (fun V => V.cell? ⟨w9.heap.size, 0, none⟩ = some (.int .i64 y2.m.kind) ∧ V.cell? ⟨w9.heap.size, 1, none⟩ = some (.int .i64 y2.m.from_) ∧ V.cell? ⟨w9.heap.size, 2, none⟩ = some (.int .i64 y2.m.to_) ∧ V.cell? ⟨w9.heap.size, 3, none⟩ = some (.int .i64 y2.m.g) ∧ V.cell? ⟨w9.heap.size, 4, none⟩ = some (.int .i64 y2.m.node) ∧ V.cell? ⟨w9.heap.size, 5, none⟩ = some (.int .i64 y2.m.try_) ∧ V.cell? ⟨w9.heap.size, 6, none⟩ = some (.int .i64 y2.m.low) ∧ V.cell? ⟨w9.heap.size, 7, none⟩ = some (.int .i64 y2.m.code) ∧ V.cell? ⟨w9.heap.size, 8, none⟩ = some (.int .i64 y2.m.ticket) ∧ V.cell? ⟨w9.heap.size, 9, none⟩ = some (.slice y2.A y2.m.told.length y2.c) ∧ V.cell? ⟨w9.heap.size, 10, none⟩ = some (.slice y2.B y2.m.ops.length y2.d) ∧ V.cell? ⟨wr.heap.size, 0, none⟩ = some (.int .i64 xs.m.kind) ∧ V.cell? ⟨wr.heap.size, 1, none⟩ = some (.int .i64 xs.m.from_) ∧ V.cell? ⟨wr.heap.size, 2, none⟩ = some (.int .i64 xs.m.to_) ∧ V.cell? ⟨wr.heap.size, 3, none⟩ = some (.int .i64 xs.m.g) ∧ V.cell? ⟨wr.heap.size, 4, none⟩ = some (.int .i64 xs.m.node) ∧ V.cell? ⟨wr.heap.size, 5, none⟩ = some (.int .i64 xs.m.try_) ∧ V.cell? ⟨wr.heap.size, 6, none⟩ = some (.int .i64 xs.m.low) ∧ V.cell? ⟨wr.heap.size, 7, none⟩ = some (.int .i64 xs.m.code) ∧ V.cell? ⟨wr.heap.size, 8, none⟩ = some (.int .i64 xs.m.ticket) ∧ V.cell? ⟨wr.heap.size, 9, none⟩ = some (.slice xs.A xs.m.told.length xs.c) ∧ V.cell? ⟨wr.heap.size, 10, none⟩ = some (.slice xs.B xs.m.ops.length xs.d))
                    (first | exact hSf.out _ hB12.out | exact hSf.out _ hB13.out | exact hSf.out _ hBd.out | go_keep)
                    ((first
                      | (go_at_call 13; refine (Plain_any y2.m y2.A y2.c y2.B y2.d _).mono ?_; rintro e w12 ⟨rfl, hB_⟩; simp only [msgA]; have hB12 := Lib.hid (bnext hBd.out hB_); clear hB_)
                      | (go_at_call 12; refine (Same_any y2.m y2.A y2.c y2.B y2.d xs.m xs.A xs.c xs.B xs.d _ (hM10.out.below (bnext hB11.out hB12.out)) (hXR.out.below hB12.out)).mono ?_; rintro e w13 ⟨b, rfl, hbt_, hB_⟩; have hbt := Lib.hid hbt_; have hB13 := Lib.hid (bnext hB12.out hB_); clear hB_ hbt_)))
                  all_goals
                    clear s0 s1 s2 s3 s4 s5 s6 s7 s8 s9 s10 s11 s12 s13 s14 s15 s16 s17 s18 s19 s20 s21
                    go_wp2_with fail
                    go_roundw
                    case rel =>
                      refine ⟨n + 1, b, by omega, by go_num, rfl, Lib.hid ?_, bnext hB11.out hB13.out⟩
                      rintro ⟨q, hq, xq, hxq, hyq⟩
                      by_cases hqn : q = n
                      · subst hqn
                        rw [hXS.out] at hxq
                        cases hxq
                        exact hbt.out.2 hyq
                      · exact absurd (hfo.out ⟨q, by omega, xq, hxq, hyq⟩) (by simp)
                    case measure => simp [intOf]; omega
                · go_wp2_with fail
                  go_quiet (fail)
                  go_wp2_with fail
                  go_roundw
                  case rel => exact ⟨n + 1, true, by omega, by go_num, rfl, Lib.hid (fun _ => rfl), bnext hB11.out (below_drewN (Below.refl _ _) nq)⟩
                  case measure => simp [intOf]; omega
              · have hIv := Lib.hid (hI10.out.later hBv.out)
                by_cases hc2 : code2 = 0
                · obtain ⟨hg, xq, hxq, hyq⟩ := hres.out.resolve_left (by simp [hc2])
                  have hc0 : code = 0 := by
                    rcases hcode.out with ⟨h, _⟩ | ⟨_, h⟩
                    · exact h
                    · exact absurd h (good_not hg)
                  obtain ⟨q, hq, hqe⟩ := List.getElem_of_mem hxq
                  have hbt : b = true := hfo.out ⟨q, by omega, xq, by rw [List.getElem?_eq_getElem hq, hqe], hyq⟩
                  subst hc2 hc0 hbt
                  clear hg hxq hyq hqe
                  go_wp2_with fail
                  first
                    | exact ⟨⟨k + 1, S, ks2, by omega, by go_num, by omega, by omega, by omega, hIv.out⟩, by simp [intOf]; omega⟩
                    | (go_roundw; case rel => exact ⟨k + 1, S, ks2, by omega, by go_num, by omega, by omega, by omega, hIv.out⟩; case measure => simp [intOf]; omega)
                · have dc : (code2 == 0) = false := by simpa using hc2
                  go_wp2_with fail
                  first
                    | exact ⟨⟨k + 1, S, ks2, by omega, by go_num, by omega, by omega, by omega, hIv.out⟩, by simp [intOf]; omega⟩
                    | (go_roundw; case rel => exact ⟨k + 1, S, ks2, by omega, by go_num, by omega, by omega, by omega, hIv.out⟩; case measure => simp [intOf]; omega)
        · as_aux_lemma =>
            go_wp2_with fail
            generalize w4.alloc (.cells #[.int .i64 m'.kind, .int .i64 m'.from_, .int .i64 m'.to_, .int .i64 m'.g, .int .i64 m'.node, .int .i64 m'.try_, .int .i64 m'.low, .int .i64 m'.code, .int .i64 m'.ticket, .slice x.A m'.told.length x.c, .slice B' m'.ops.length d'] 31) = W5 at *
            refine (Drop_step p 100 ks i' W5 (hH.out.1.below hI5.out.below) hI5.out.net (by omega)).mono ?_
            rintro e w6 ⟨⟨cc, rfl⟩, hst⟩
            obtain ⟨ks2, hI6_, hl6⟩ := hI5.out.step (Nat.le_of_lt hp.out) hst
            have hI6 := Lib.hid hI6_
            clear hI6_ hst
            go_wp2_with fail
            first
              | exact ⟨⟨k + 1, S, ks2, by omega, by go_num, by omega, by omega, by omega, hI6.out⟩, by simp [intOf]; omega⟩
              | (go_roundw; case rel => exact ⟨k + 1, S, ks2, by omega, by go_num, by omega, by omega, by omega, hI6.out⟩; case measure => simp [intOf]; omega)
        · as_aux_lemma =>
            go_wp2_with fail
            generalize w4.alloc (.cells #[.int .i64 m'.kind, .int .i64 m'.from_, .int .i64 m'.to_, .int .i64 m'.g, .int .i64 m'.node, .int .i64 m'.try_, .int .i64 m'.low, .int .i64 m'.code, .int .i64 m'.ticket, .slice x.A m'.told.length x.c, .slice B' m'.ops.length d'] 31) = W5 at *
            refine (Twice_step p 100 ks i' W5 (hH.out.1.below hI5.out.below) hI5.out.net (by omega) (by omega)).mono ?_
            rintro e w6 ⟨⟨cc, rfl⟩, hst⟩
            obtain ⟨ks2, hI6_, hl6⟩ := hI5.out.step (Nat.le_of_lt hp.out) hst
            have hI6 := Lib.hid hI6_
            clear hI6_ hst
            go_wp2_with fail
            first
              | exact ⟨⟨k + 1, S, ks2, by omega, by go_num, by omega, by omega, by omega, hI6.out⟩, by simp [intOf]; omega⟩
              | (go_roundw; case rel => exact ⟨k + 1, S, ks2, by omega, by go_num, by omega, by omega, by omega, hI6.out⟩; case measure => simp [intOf]; omega)
        · as_aux_lemma =>
            go_wp2_with fail
            generalize w4.alloc (.cells #[.int .i64 m'.kind, .int .i64 m'.from_, .int .i64 m'.to_, .int .i64 m'.g, .int .i64 m'.node, .int .i64 m'.try_, .int .i64 m'.low, .int .i64 m'.code, .int .i64 m'.ticket, .slice x.A m'.told.length x.c, .slice B' m'.ops.length d'] 31) = W5 at *
            refine (Move_step p 100 ks i' k' W5 (hH.out.1.below hI5.out.below) hI5.out.net (by omega)).mono ?_
            rintro e w6 ⟨⟨cc, rfl⟩, hst⟩
            obtain ⟨ks2, hI6_, hl6⟩ := hI5.out.step (Nat.le_of_lt hp.out) hst
            have hI6 := Lib.hid hI6_
            clear hI6_ hst
            go_wp2_with fail
            first
              | exact ⟨⟨k + 1, S, ks2, by omega, by go_num, by omega, by omega, by omega, hI6.out⟩, by simp [intOf]; omega⟩
              | (go_roundw; case rel => exact ⟨k + 1, S, ks2, by omega, by go_num, by omega, by omega, by omega, hI6.out⟩; case measure => simp [intOf]; omega)
        · as_aux_lemma =>
            go_wp2_with fail
            generalize w4.alloc (.cells #[.int .i64 m'.kind, .int .i64 m'.from_, .int .i64 m'.to_, .int .i64 m'.g, .int .i64 m'.node, .int .i64 m'.try_, .int .i64 m'.low, .int .i64 m'.code, .int .i64 m'.ticket, .slice x.A m'.told.length x.c, .slice B' m'.ops.length d'] 31) = W5 at *
            refine (Hold_step p 100 ks i' k' W5 (hH.out.1.below hI5.out.below) hI5.out.net).mono ?_
            rintro e w6 ⟨⟨cc, rfl⟩, hst⟩
            obtain ⟨ks2, hI6_, hl6⟩ := hI5.out.step (Nat.le_of_lt hp.out) hst
            have hI6 := Lib.hid hI6_
            clear hI6_ hst
            go_wp2_with fail
            first
              | exact ⟨⟨k + 1, S, ks2, by omega, by go_num, by omega, by omega, by omega, hI6.out⟩, by simp [intOf]; omega⟩
              | (go_roundw; case rel => exact ⟨k + 1, S, ks2, by omega, by go_num, by omega, by omega, by omega, hI6.out⟩; case measure => simp [intOf]; omega)
        · as_aux_lemma =>
            go_wp2_with fail
            generalize w4.alloc (.cells #[.int .i64 m'.kind, .int .i64 m'.from_, .int .i64 m'.to_, .int .i64 m'.g, .int .i64 m'.node, .int .i64 m'.try_, .int .i64 m'.low, .int .i64 m'.code, .int .i64 m'.ticket, .slice x.A m'.told.length x.c, .slice B' m'.ops.length d'] 31) = W5 at *
            refine (Packet_any p 100 ks i' W5 hI5.out.net).mono ?_
            rintro e w6 ⟨Ap, cp, rfl, hRp_, hB_⟩
            have hRp := Lib.hid hRp_
            have hBp := Lib.hid hB_
            clear hRp_ hB_
            go_wp2_with fail
            refine (dec_any S _ (bytesAt ks i') w6 hRp.out (hH.out.1.below (hI5.out.later hBp.out).below) (bytesAt_cases hI5.out.pk i') (bytesAt_len hI5.out.net i')).mono ?_
            rintro e w7 ⟨y, code, rfl, hcode_, hB_⟩
            simp only [msgA]
            have hBd := bnext hBp.out hB_
            have hBa := below_alloc hBd (.cells #[.int .i64 y.m.kind, .int .i64 y.m.from_, .int .i64 y.m.to_, .int .i64 y.m.g, .int .i64 y.m.node, .int .i64 y.m.try_, .int .i64 y.m.low, .int .i64 y.m.code, .int .i64 y.m.ticket, .slice y.A y.m.told.length y.c, .slice y.B y.m.ops.length y.d] 37)
            have hI8 := Lib.hid (hI5.out.later hBa)
            have hb7b := Lib.hid (block_below hBa hb7.out)
            have uz0 : (w7.alloc (.cells #[.int .i64 y.m.kind, .int .i64 y.m.from_, .int .i64 y.m.to_, .int .i64 y.m.g, .int .i64 y.m.node, .int .i64 y.m.try_, .int .i64 y.m.low, .int .i64 y.m.code, .int .i64 y.m.ticket, .slice y.A y.m.told.length y.c, .slice y.B y.m.ops.length y.d] 37)).cell? ⟨wr.heap.size, 0, none⟩ = some (.int .i64 8) := by rw [block_cell hb7b.out]; rfl
            have uz13 : (w7.alloc (.cells #[.int .i64 y.m.kind, .int .i64 y.m.from_, .int .i64 y.m.to_, .int .i64 y.m.g, .int .i64 y.m.node, .int .i64 y.m.try_, .int .i64 y.m.low, .int .i64 y.m.code, .int .i64 y.m.ticket, .slice y.A y.m.told.length y.c, .slice y.B y.m.ops.length y.d] 37)).cell? ⟨wr.heap.size, 13, none⟩ = some (.int .i64 i') := by rw [block_cell hb7b.out]; rfl
            have uz14 : (w7.alloc (.cells #[.int .i64 y.m.kind, .int .i64 y.m.from_, .int .i64 y.m.to_, .int .i64 y.m.g, .int .i64 y.m.node, .int .i64 y.m.try_, .int .i64 y.m.low, .int .i64 y.m.code, .int .i64 y.m.ticket, .slice y.A y.m.told.length y.c, .slice y.B y.m.ops.length y.d] 37)).cell? ⟨wr.heap.size, 14, none⟩ = some (.int .i64 k') := by rw [block_cell hb7b.out]; rfl
            have hcode := Lib.hid hcode_
            clear hB_ hBd hBa hRp hBp hcode_
            by_cases hc : code = 0
            · have hgd : GoodS S (bytesAt ks i') := by
                rcases hcode.out with ⟨_, h⟩ | ⟨h, _⟩
                · exact h
                · omega
              have hGD := Lib.hid hgd
              subst hc
              clear hgd
              go_wp2_with fail
              generalize w7.alloc (.cells #[.int .i64 y.m.kind, .int .i64 y.m.from_, .int .i64 y.m.to_, .int .i64 y.m.g, .int .i64 y.m.node, .int .i64 y.m.try_, .int .i64 y.m.low, .int .i64 y.m.code, .int .i64 y.m.ticket, .slice y.A y.m.told.length y.c, .slice y.B y.m.ops.length y.d] 37) = W8 at *
              clear uz0 uz13 uz14
              refine (Spoil_step S p 100 ks i' k' W8 (hH.out.1.below hI8.out.below) hI8.out.net hI8.out.pk hGD.out).mono ?_
              rintro e w9 ⟨code3, ks2, rfl, hN_, hK_, hl9, hpk_, hres_⟩
              have hI9 := Lib.hid (hI8.out.kept (Nat.le_of_lt hp.out) hN_ hK_ hpk_)
              have hb9 := Lib.hid ((hK_.block wr.heap.size (lt_of_block hb7b.out) (by
                rintro ⟨_, cur, T, fr, hb, hT⟩
                rw [hb7b.out] at hb
                simp only [Option.some.injEq, Obj.cells.injEq] at hb
                obtain ⟨_, rfl, _⟩ := hb
                simp at hT)).trans hb7b.out)
              have hres := Lib.hid hres_
              have vz0 : w9.cell? ⟨wr.heap.size, 0, none⟩ = some (.int .i64 8) := by rw [block_cell hb9.out]; rfl
              have vz13 : w9.cell? ⟨wr.heap.size, 13, none⟩ = some (.int .i64 i') := by rw [block_cell hb9.out]; rfl
              have vz14 : w9.cell? ⟨wr.heap.size, 14, none⟩ = some (.int .i64 k') := by rw [block_cell hb9.out]; rfl
              clear hN_ hK_ hpk_ hres_
              by_cases hc3 : code3 = 0
              · subst hc3
                go_wp2_with fail
                refine (Packet_any p 100 ks2 i' w9 hI9.out.net).mono ?_
                rintro e w11 ⟨Ap, cp, rfl, hRp_, hB_⟩
                have hRp := Lib.hid hRp_
                have hBp := Lib.hid hB_
                clear hRp_ hB_
                go_wp2_with fail
                refine (dec_any S _ (bytesAt ks2 i') w11 hRp.out (hH.out.1.below (hI9.out.later hBp.out).below) (bytesAt_cases hI9.out.pk i') (bytesAt_len hI9.out.net i')).mono ?_
                rintro e w12 ⟨y4, code4, rfl, hcode4_, hB_⟩
                simp only [msgA]
                have hBd := bnext hBp.out hB_
                have hBa := below_alloc hBd (.cells #[.int .i64 y4.m.kind, .int .i64 y4.m.from_, .int .i64 y4.m.to_, .int .i64 y4.m.g, .int .i64 y4.m.node, .int .i64 y4.m.try_, .int .i64 y4.m.low, .int .i64 y4.m.code, .int .i64 y4.m.ticket, .slice y4.A y4.m.told.length y4.c, .slice y4.B y4.m.ops.length y4.d] 37)
                have hI13 := Lib.hid (hI9.out.later hBa)
                have hb13 := Lib.hid (block_below hBa hb9.out)
                have hcode4 := Lib.hid hcode4_
                clear hB_ hBd hBa hRp hBp hcode4_
                have hc6 : code4 = 6 := by
                  rcases hcode4.out with ⟨_, h⟩ | ⟨h, _⟩
                  · exact absurd (hres.out.resolve_left (by simp)) (good_not h)
                  · exact h
                subst hc6
                go_wp2_with fail
                first
                  | exact ⟨⟨k + 1, S, ks2, by omega, by go_num, by omega, by omega, by omega, hI13.out⟩, by simp [intOf]; omega⟩
                  | (go_roundw; case rel => exact ⟨k + 1, S, ks2, by omega, by go_num, by omega, by omega, by omega, hI13.out⟩; case measure => simp [intOf]; omega)
              · have dc : (code3 == 0) = false := by simpa using hc3
                go_wp2_with fail
                first
                  | exact ⟨⟨k + 1, S, ks2, by omega, by go_num, by omega, by omega, by omega, hI9.out⟩, by simp [intOf]; omega⟩
                  | (go_roundw; case rel => exact ⟨k + 1, S, ks2, by omega, by go_num, by omega, by omega, by omega, hI9.out⟩; case measure => simp [intOf]; omega)
            · have dc : (code == 0) = false := by simpa using hc
              go_wp2_with fail
              first
                | exact ⟨⟨k + 1, S, ks, by omega, by go_num, by omega, by omega, by omega, hI8.out⟩, by simp [intOf]; omega⟩
                | (go_roundw; case rel => exact ⟨k + 1, S, ks, by omega, by go_num, by omega, by omega, by omega, hI8.out⟩; case measure => simp [intOf]; omega)
        · as_aux_lemma =>
            go_wp2_with fail
            generalize w4.alloc (.cells #[.int .i64 m'.kind, .int .i64 m'.from_, .int .i64 m'.to_, .int .i64 m'.g, .int .i64 m'.node, .int .i64 m'.try_, .int .i64 m'.low, .int .i64 m'.code, .int .i64 m'.ticket, .slice x.A m'.told.length x.c, .slice B' m'.ops.length d'] 31) = W5 at *
            refine (Tick_step p 100 ks W5 hI5.out.net (by omega)).mono ?_
            rintro e w6 ⟨rfl, hst⟩
            obtain ⟨ks2, hI6_, hl6⟩ := hI5.out.step (Nat.le_of_lt hp.out) hst
            have hI6 := Lib.hid hI6_
            clear hI6_ hst
            go_wp2_with fail
            first
              | exact ⟨⟨k + 1, S, ks2, by omega, by go_num, by omega, by omega, by omega, hI6.out⟩, by simp [intOf]; omega⟩
              | (go_roundw; case rel => exact ⟨k + 1, S, ks2, by omega, by go_num, by omega, by omega, by omega, hI6.out⟩; case measure => simp [intOf]; omega)
        · as_aux_lemma =>
            go_wp2_with fail
            generalize w4.alloc (.cells #[.int .i64 m'.kind, .int .i64 m'.from_, .int .i64 m'.to_, .int .i64 m'.g, .int .i64 m'.node, .int .i64 m'.try_, .int .i64 m'.low, .int .i64 m'.code, .int .i64 m'.ticket, .slice x.A m'.told.length x.c, .slice B' m'.ops.length d'] 31) = W5 at *
            first
              | exact ⟨⟨k + 1, S, ks, by omega, by go_num, by omega, by omega, by omega, hI5.out⟩, by simp [intOf]; omega⟩
              | (go_roundw; case rel => exact ⟨k + 1, S, ks, by omega, by go_num, by omega, by omega, by omega, hI5.out⟩; case measure => simp [intOf]; omega)
    · go_wp2_with fail
      refine (awake_any _ (hH.out.1.below (hI.out).below)).mono ?_
      rintro e wy ⟨rfl, hBy_⟩
      have hBy := Lib.hid (bnext (hI.out).below hBy_)
      clear hBy_
      go_wp2_with fail
      go_ret
      exact ⟨rfl, hBy.out⟩

end Go.Proofs.YteeiacfddjhhkaaGreatDoor
