/- mess.read of any bytes: a message, and a fault or none. -/
import Derived.Test.YteeiacfddjhhkaaGreatDoorSafe4
import Derived.Test.YteeiacfddjhhkaaGreatDoorRd4
namespace Go.Proofs.YteeiacfddjhhkaaGreatDoor
open Go.RowKit
set_option maxRecDepth 100000

theorem first_e (b b1 : Nat) (T1 : TypeId) (v2 : Value) (w : World) (h : RowAt w (some ⟨b, 0, none⟩) [.iface T1 (.pointer (some ⟨b1, 0, none⟩)), v2]) :
    Calls Tryz.prog 73 #[.slice (some ⟨b, 0, none⟩) 2 2] w fun e w' => e = .returned (.iface T1 (.pointer (some ⟨b1, 0, none⟩))) ∧ Below w.heap.size w w' := by
  have x0 : w.cell? ⟨b, 0, none⟩ = some (.iface T1 (.pointer (some ⟨b1, 0, none⟩))) := by obtain ⟨a, ha, hc⟩ := h 0 _ rfl; cases ha; exact hc
  clear h
  go_enter Tryz.func73, Tryz.ntmps73
  go_wp2_with fail
  refine wp_loop_rounds 3 ?_
  rw [rounds_succ]
  go_wp2_with fail
  go_ret
  exact ⟨rfl, Below.refl _ _⟩
theorem first_n (b b1 : Nat) (T1 : TypeId) (w : World) (h : RowAt w (some ⟨b, 0, none⟩) [.nilIface, .iface T1 (.pointer (some ⟨b1, 0, none⟩))]) :
    Calls Tryz.prog 73 #[.slice (some ⟨b, 0, none⟩) 2 2] w fun e w' => e = .returned (.iface T1 (.pointer (some ⟨b1, 0, none⟩))) ∧ Below w.heap.size w w' := by
  have x0 : w.cell? ⟨b, 0, none⟩ = some .nilIface := by obtain ⟨a, ha, hc⟩ := h 0 _ rfl; cases ha; exact hc
  have x1 : w.cell? ⟨b, 1, none⟩ = some (.iface T1 (.pointer (some ⟨b1, 0, none⟩))) := by obtain ⟨a, ha, hc⟩ := h 1 _ rfl; cases ha; exact hc
  clear h
  go_enter Tryz.func73, Tryz.ntmps73
  go_wp2_with fail
  refine wp_loop_rounds 3 ?_
  rw [rounds_succ]
  go_wp2_with fail
  rw [rounds_succ]
  go_wp2_with fail
  go_ret
  exact ⟨rfl, Below.refl _ _⟩
theorem first_o (b : Nat) (w : World) (h : RowAt w (some ⟨b, 0, none⟩) [.nilIface, .nilIface]) :
    Calls Tryz.prog 73 #[.slice (some ⟨b, 0, none⟩) 2 2] w fun e w' => e = .returned .nilIface ∧ Below w.heap.size w w' :=
  (first_ok b w h).mono fun e w' h => ⟨h.1, by rw [h.2]; exact Below.refl _ _⟩

theorem wp_min_u64 {P : Program} {w : World} {o : Oper} {a : Act} {K : Act → World → Prop} {Q : Exit → Act → World → Prop} (x y : Operand) (ts : Array TypeId)
    (ho : o.op = .call { callee := .builtin .min, args := #[x, y], argTypes := ts }) (n k : Nat) (hx : a.eval x = .int .u64 n) (hy : a.eval y = .int .u64 k) (h : ∀ m : Nat, m ≤ k → K (a.put o.dst (.int .u64 m)) w) : o.wp P a w K Q := by
  unfold Oper.wp execOp
  simp only [ho, resolve, invoke, builtin, Sem.run_bind, Sem.run_pure, Result.andThen_ok, List.map_toArray, List.map_cons, List.map_nil, hx, hy, run_min_int2]
  split
  · exact h k (Nat.le_refl _)
  · exact h n (by omega)
theorem msg_stepS {w W : World} {p q : Nat} {arr : Array Value} {T : TypeId} (i : Nat) (u : Value) (hI : InS W p) (hQ : W.heap[q]? = some (.cells arr T (0, 0))) (hB : Below w.heap.size w W) (hT : noFault T) (hpq : p < q) (hwp : w.heap.size ≤ p) :
    InS (W.setCell ⟨q, i, none⟩ u) p ∧ (W.setCell ⟨q, i, none⟩ u).heap[q]? = some (.cells (arr.setIfInBounds i u) T (0, 0)) ∧ Below w.heap.size w (W.setCell ⟨q, i, none⟩ u) := by
  have h1 : ∀ k, k ≠ q → (W.setCell ⟨q, i, none⟩ u).heap[k]? = W.heap[k]? := fun k hk => Below.heap_setCell _ _ _ _ (by simpa using hk)
  refine ⟨hI.kept (Kept.setCell (S := (· = q)) (p := ⟨q, i, none⟩) (Kept.refl _ W) (.inl rfl) u) (by rintro _ rfl; exact ⟨hpq, _, _, _, hQ, hT⟩), block_setCell hQ i u, hB.os, hB.tape, hB.output, by rw [World.size_setCell]; exact hB.size, fun k hk => ?_⟩
  rw [h1 k (by omega)]
  exact hB.block k hk
theorem cell_keptP {w w' : World} {p q j : Nat} {v : Value} (hk : Kept (· = p) w w') (hq : q ≠ p) (h : w.cell? ⟨q, j, none⟩ = some v) : w'.cell? ⟨q, j, none⟩ = some v :=
  (World.cell?_of_block (hk.block q (World.block_lt_of_cell? w _ h) hq)).trans h
theorem mess_noFault : noFault 37 := ⟨by decide, by decide, by decide, by decide⟩
theorem int64_noFault : noFault 2 := ⟨by decide, by decide, by decide, by decide⟩
/-- What mess.read hands back: a message, a fault or none. -/
def ReadRet (w : World) (e : Ending) (w' : World) : Prop := ∃ (m : PMsg) (A : Option Addr) (c : Nat) (B : Option Addr) (d : Nat) (ev : Value), e = .returned (.tuple #[.agg (msgA m A c B d), ev]) ∧ MsgR w' m A c B d ∧ FreshM w A B ∧
  (ev = .nilIface ∨ ∃ T b, ev = .iface T (.pointer (some ⟨b, 0, none⟩))) ∧ m.told.length ≤ 8 ∧ m.ops.length ≤ 64 ∧ Below w.heap.size w w'
set_option maxHeartbeats 2000000 in
theorem read_s (v : Value) (bs : List UInt8) (w : World) (hR : RB w v bs) (hbl : bs.length ≤ 100000) (hG : GOk w) :
    Calls Tryz.prog 43 #[v] w (ReadRet w) := by
  obtain ⟨A, c, hv, _⟩ := id hR
  have hRR := Lib.hid hR
  have hGG := Lib.hid hG
  subst hv
  clear hR hG
  go_enter Tryz.func43, Tryz.ntmps43
  have hZ := Lib.hid (below_alloc (Below.refl _ w) (.cells #[.int .i64 0, .int .i64 0, .int .i64 0, .int .i64 0, .int .i64 0, .int .i64 0, .int .i64 0, .int .i64 0, .int .i64 0, .slice none 0 0, .slice none 0 0] 37))
  have hZb := Lib.hid (heap_alloc_new w (.cells #[.int .i64 0, .int .i64 0, .int .i64 0, .int .i64 0, .int .i64 0, .int .i64 0, .int .i64 0, .int .i64 0, .int .i64 0, .slice none 0 0, .slice none 0 0] 37))
  go_wp2_with fail
  generalize w.alloc (.cells #[.int .i64 0, .int .i64 0, .int .i64 0, .int .i64 0, .int .i64 0, .int .i64 0, .int .i64 0, .int .i64 0, .int .i64 0, .slice none 0 0, .slice none 0 0] 37) = W0 at *
  have hG0 := Lib.hid (hGG.out.below hZ.out)
  refine (of_s _ bs _ (hRR.out.below hZ.out) hbl).mono ?_
  rintro e w1 ⟨p, rfl, hI1_, hp_, hB1_⟩
  have hI0 := Lib.hid hI1_
  have hI1 := Lib.hid (hI1_.later (below_alloc (Below.refl _ w1) (.cells #[.int .i64 0, .int .i64 0, .int .i64 0, .int .i64 0, .int .i64 0, .int .i64 0, .int .i64 0, .int .i64 0, .int .i64 0, .slice none 0 0, .slice none 0 0] 37)))
  have hp : W0.heap.size ≤ p := hp_
  have hp0 : w.heap.size < W0.heap.size := lt_of_block hZb.out
  have hB1 := Lib.hid (below_alloc hB1_ (.cells #[.int .i64 0, .int .i64 0, .int .i64 0, .int .i64 0, .int .i64 0, .int .i64 0, .int .i64 0, .int .i64 0, .int .i64 0, .slice none 0 0, .slice none 0 0] 37))
  clear hI1_ hp_ hB1_
  go_wp2_with fail
  obtain ⟨q, hq⟩ : ∃ q, w1.heap.size = q := ⟨_, rfl⟩
  have hq0 := Lib.hid (heap_alloc_new w1 (.cells #[.int .i64 0, .int .i64 0, .int .i64 0, .int .i64 0, .int .i64 0, .int .i64 0, .int .i64 0, .int .i64 0, .int .i64 0, .slice none 0 0, .slice none 0 0] 37))
  have hpq : p < q := by rw [← hq]; exact hI0.out.lt
  generalize w1.alloc (.cells #[.int .i64 0, .int .i64 0, .int .i64 0, .int .i64 0, .int .i64 0, .int .i64 0, .int .i64 0, .int .i64 0, .int .i64 0, .slice none 0 0, .slice none 0 0] 37) = W at *
  rw [hq] at hq0
  rw [hq]
  refine (small_s p _ hI1.out).mono ?_
  rintro e w2 ⟨kind, rfl, k_kind, hI2_, hK2_⟩
  have hI2 := Lib.hid hI2_
  have hQ2 := Lib.hid ((hK2_.block q (lt_of_block hq0.out) (by omega)).trans hq0.out)
  have hB2 := Lib.hid (kept_below hB1.out hK2_ (by rintro _ rfl; omega))
  clear hI2_ hK2_ hI1 hq0 hB1
  go_wp2_with fail
  refine (small_s p _ hI2.out).mono ?_
  rintro e w3 ⟨from_, rfl, k_from_, hI3_, hK3_⟩
  have hI3 := Lib.hid hI3_
  have hQ3 := Lib.hid ((hK3_.block q (lt_of_block hQ2.out) (by omega)).trans hQ2.out)
  have hB3 := Lib.hid (kept_below hB2.out hK3_ (by rintro _ rfl; omega))
  clear hI3_ hK3_ hI2 hQ2 hB2
  go_wp2_with fail
  refine (small_s p _ hI3.out).mono ?_
  rintro e w4 ⟨to_, rfl, k_to_, hI4_, hK4_⟩
  have hI4 := Lib.hid hI4_
  have hQ4 := Lib.hid ((hK4_.block q (lt_of_block hQ3.out) (by omega)).trans hQ3.out)
  have hB4 := Lib.hid (kept_below hB3.out hK4_ (by rintro _ rfl; omega))
  clear hI4_ hK4_ hI3 hQ3 hB3
  have f0 : w4.frozen? ⟨q, 0, none⟩ = false := block_free hQ4.out 0
  have x0 : w4.cell? ⟨q, 0, none⟩ = some (.int .i64 0) := by rw [block_cell hQ4.out]; rfl
  have f1 : w4.frozen? ⟨q, 1, none⟩ = false := block_free hQ4.out 1
  have x1 : w4.cell? ⟨q, 1, none⟩ = some (.int .i64 0) := by rw [block_cell hQ4.out]; rfl
  have f2 : w4.frozen? ⟨q, 2, none⟩ = false := block_free hQ4.out 2
  have x2 : w4.cell? ⟨q, 2, none⟩ = some (.int .i64 0) := by rw [block_cell hQ4.out]; rfl
  go_wp2_with fail
  have s0 := Lib.hid (msg_stepS (w := W0) 0 (.int .i64 kind) hI4.out hQ4.out hB4.out mess_noFault hpq hp)
  have s1 := Lib.hid (msg_stepS (w := W0) 1 (.int .i64 from_) s0.out.1 s0.out.2.1 s0.out.2.2 mess_noFault hpq hp)
  have s2 := Lib.hid (msg_stepS (w := W0) 2 (.int .i64 to_) s1.out.1 s1.out.2.1 s1.out.2.2 mess_noFault hpq hp)
  generalize (((w4.setCell ⟨q, 0, none⟩ (.int .i64 kind)).setCell ⟨q, 1, none⟩ (.int .i64 from_)).setCell ⟨q, 2, none⟩ (.int .i64 to_)) = W5 at *
  have hI5 := Lib.hid s2.out.1
  have hB5 := Lib.hid s2.out.2.2
  have hQ5 : Hid (W5.heap[q]? = some (.cells #[.int .i64 kind, .int .i64 from_, .int .i64 to_, .int .i64 0, .int .i64 0, .int .i64 0, .int .i64 0, .int .i64 0, .int .i64 0, .slice none 0 0, .slice none 0 0] 37 (0, 0))) := Lib.hid s2.out.2.1
  clear s2 f2 x2 s1 f1 x1 s0 f0 x0 hI4 hB4 hQ4
  refine (small_s p _ hI5.out).mono ?_
  rintro e w6 ⟨gg, rfl, k_gg, hI6_, hK6_⟩
  have hI6 := Lib.hid hI6_
  have hQ6 := Lib.hid ((hK6_.block q (lt_of_block hQ5.out) (by omega)).trans hQ5.out)
  have hB6 := Lib.hid (kept_below hB5.out hK6_ (by rintro _ rfl; omega))
  clear hI6_ hK6_ hI5 hQ5 hB5
  go_wp2_with fail
  refine (small_s p _ hI6.out).mono ?_
  rintro e w7 ⟨node, rfl, k_node, hI7_, hK7_⟩
  have hI7 := Lib.hid hI7_
  have hQ7 := Lib.hid ((hK7_.block q (lt_of_block hQ6.out) (by omega)).trans hQ6.out)
  have hB7 := Lib.hid (kept_below hB6.out hK7_ (by rintro _ rfl; omega))
  clear hI7_ hK7_ hI6 hQ6 hB6
  go_wp2_with fail
  refine (small_s p _ hI7.out).mono ?_
  rintro e w8 ⟨try_, rfl, k_try_, hI8_, hK8_⟩
  have hI8 := Lib.hid hI8_
  have hQ8 := Lib.hid ((hK8_.block q (lt_of_block hQ7.out) (by omega)).trans hQ7.out)
  have hB8 := Lib.hid (kept_below hB7.out hK8_ (by rintro _ rfl; omega))
  clear hI8_ hK8_ hI7 hQ7 hB7
  go_wp2_with fail
  refine (small_s p _ hI8.out).mono ?_
  rintro e w9 ⟨low, rfl, k_low, hI9_, hK9_⟩
  have hI9 := Lib.hid hI9_
  have hQ9 := Lib.hid ((hK9_.block q (lt_of_block hQ8.out) (by omega)).trans hQ8.out)
  have hB9 := Lib.hid (kept_below hB8.out hK9_ (by rintro _ rfl; omega))
  clear hI9_ hK9_ hI8 hQ8 hB8
  go_wp2_with fail
  refine (small_s p _ hI9.out).mono ?_
  rintro e w10 ⟨code, rfl, k_code, hI10_, hK10_⟩
  have hI10 := Lib.hid hI10_
  have hQ10 := Lib.hid ((hK10_.block q (lt_of_block hQ9.out) (by omega)).trans hQ9.out)
  have hB10 := Lib.hid (kept_below hB9.out hK10_ (by rintro _ rfl; omega))
  clear hI10_ hK10_ hI9 hQ9 hB9
  have f3 : w10.frozen? ⟨q, 3, none⟩ = false := block_free hQ10.out 3
  have x3 : w10.cell? ⟨q, 3, none⟩ = some (.int .i64 0) := by rw [block_cell hQ10.out]; rfl
  have f4 : w10.frozen? ⟨q, 4, none⟩ = false := block_free hQ10.out 4
  have x4 : w10.cell? ⟨q, 4, none⟩ = some (.int .i64 0) := by rw [block_cell hQ10.out]; rfl
  have f5 : w10.frozen? ⟨q, 5, none⟩ = false := block_free hQ10.out 5
  have x5 : w10.cell? ⟨q, 5, none⟩ = some (.int .i64 0) := by rw [block_cell hQ10.out]; rfl
  have f6 : w10.frozen? ⟨q, 6, none⟩ = false := block_free hQ10.out 6
  have x6 : w10.cell? ⟨q, 6, none⟩ = some (.int .i64 0) := by rw [block_cell hQ10.out]; rfl
  have f7 : w10.frozen? ⟨q, 7, none⟩ = false := block_free hQ10.out 7
  have x7 : w10.cell? ⟨q, 7, none⟩ = some (.int .i64 0) := by rw [block_cell hQ10.out]; rfl
  go_wp2_with fail
  have s3 := Lib.hid (msg_stepS (w := W0) 3 (.int .i64 gg) hI10.out hQ10.out hB10.out mess_noFault hpq hp)
  have s4 := Lib.hid (msg_stepS (w := W0) 4 (.int .i64 node) s3.out.1 s3.out.2.1 s3.out.2.2 mess_noFault hpq hp)
  have s5 := Lib.hid (msg_stepS (w := W0) 5 (.int .i64 try_) s4.out.1 s4.out.2.1 s4.out.2.2 mess_noFault hpq hp)
  have s6 := Lib.hid (msg_stepS (w := W0) 6 (.int .i64 low) s5.out.1 s5.out.2.1 s5.out.2.2 mess_noFault hpq hp)
  have s7 := Lib.hid (msg_stepS (w := W0) 7 (.int .i64 code) s6.out.1 s6.out.2.1 s6.out.2.2 mess_noFault hpq hp)
  generalize (((((w10.setCell ⟨q, 3, none⟩ (.int .i64 gg)).setCell ⟨q, 4, none⟩ (.int .i64 node)).setCell ⟨q, 5, none⟩ (.int .i64 try_)).setCell ⟨q, 6, none⟩ (.int .i64 low)).setCell ⟨q, 7, none⟩ (.int .i64 code)) = W11 at *
  have hI11 := Lib.hid s7.out.1
  have hB11 := Lib.hid s7.out.2.2
  have hQ11 : Hid (W11.heap[q]? = some (.cells #[.int .i64 kind, .int .i64 from_, .int .i64 to_, .int .i64 gg, .int .i64 node, .int .i64 try_, .int .i64 low, .int .i64 code, .int .i64 0, .slice none 0 0, .slice none 0 0] 37 (0, 0))) := Lib.hid s7.out.2.1
  clear s7 f7 x7 s6 f6 x6 s5 f5 x5 s4 f4 x4 s3 f3 x3 hI10 hB10 hQ10
  refine (Nat_s p _ hI11.out).mono ?_
  rintro e w20 ⟨tk, rfl, htk, hI20_, hK20_⟩
  have hI20 := Lib.hid hI20_
  have hQ20 := Lib.hid ((hK20_.block q (lt_of_block hQ11.out) (by omega)).trans hQ11.out)
  have hB20 := Lib.hid (kept_below hB11.out hK20_ (by rintro _ rfl; omega))
  clear hI20_ hK20_ hI11 hQ11 hB11
  have f8 : w20.frozen? ⟨q, 8, none⟩ = false := block_free hQ20.out 8
  have x8 : w20.cell? ⟨q, 8, none⟩ = some (.int .i64 0) := by rw [block_cell hQ20.out]; rfl
  go_wp2_with (refine list_of_wp rfl ?_; refine wp_min_u64 (.tmp 39) (.const (.int .u64 9223372036854775807)) _ rfl tk 9223372036854775807 rfl rfl ?_; intro ticketN htn)
  obtain ⟨ticket, htk9⟩ : ∃ ticket : Int, (ticketN : Int) = ticket := ⟨_, rfl⟩
  have htok2 : 0 ≤ ticket ∧ ticket ≤ 9223372036854775807 := by omega
  rw [htk9]
  clear htk9 htn htk
  go_wp2_with fail
  have s8 := Lib.hid (msg_stepS (w := W0) 8 (.int .i64 ticket) hI20.out hQ20.out hB20.out mess_noFault hpq hp)
  generalize (w20.setCell ⟨q, 8, none⟩ (.int .i64 ticket)) = W22 at *
  have hI22 := Lib.hid s8.out.1
  have hB22 := Lib.hid s8.out.2.2
  have hQ22 : Hid (W22.heap[q]? = some (.cells #[.int .i64 kind, .int .i64 from_, .int .i64 to_, .int .i64 gg, .int .i64 node, .int .i64 try_, .int .i64 low, .int .i64 code, .int .i64 ticket, .slice none 0 0, .slice none 0 0] 37 (0, 0))) := Lib.hid s8.out.2.1
  clear s8 f8 x8 hI20 hB20 hQ20
  have hNUM : Hid (i64ok kind ∧ i64ok from_ ∧ i64ok to_ ∧ i64ok gg ∧ i64ok node ∧ i64ok try_ ∧ i64ok low ∧ i64ok code ∧ i64ok ticket) := Lib.hid (by simp only [i64ok]; refine ⟨?_, ?_, ?_, ?_, ?_, ?_, ?_, ?_, ?_⟩ <;> omega)
  clear k_kind k_from_ k_to_ k_gg k_node k_try_ k_low k_code htok2
  refine (Nat_s p _ hI22.out).mono ?_
  rintro e w30 ⟨n, rfl, hn, hI30_, hK30_⟩
  have hI30 := Lib.hid hI30_
  have hQ30 := Lib.hid ((hK30_.block q (lt_of_block hQ22.out) (by omega)).trans hQ22.out)
  have hB30 := Lib.hid (kept_below hB22.out hK30_ (by rintro _ rfl; omega))
  clear hI30_ hK30_ hI22 hQ22 hB22
  have hr0q : Hid (w.heap.size ≠ q) := Lib.hid (by omega)
  by_cases h8 : 8 < n
  · have d8 : decide ((8 : Int) < n) = true := by simp; omega
    have hN := Lib.hid hn
    clear h8 hn
    go_wp2_with fail
    have hID : Hid (InS w30.drew p) := Lib.hid (hI30.out.later (Below.refl _ _).drew)
    have hzD : Hid (w30.drew.heap[w.heap.size]? = _) := Lib.hid ((hB30.out.block _ hp0).trans hZb.out)
    obtain ⟨y0, y1, y2, y3, y4, y5, y6, y7, y8, y9, y10⟩ := msg_cells hQ30.out
    go_region_held3 (fun w' => w'.cell? ⟨q, 0, none⟩ = some (.int .i64 kind) ∧ w'.cell? ⟨q, 1, none⟩ = some (.int .i64 from_) ∧ w'.cell? ⟨q, 2, none⟩ = some (.int .i64 to_) ∧ w'.cell? ⟨q, 3, none⟩ = some (.int .i64 gg) ∧ w'.cell? ⟨q, 4, none⟩ = some (.int .i64 node) ∧ w'.cell? ⟨q, 5, none⟩ = some (.int .i64 try_) ∧ w'.cell? ⟨q, 6, none⟩ = some (.int .i64 low) ∧ w'.cell? ⟨q, 7, none⟩ = some (.int .i64 code) ∧ w'.cell? ⟨q, 8, none⟩ = some (.int .i64 ticket) ∧ w'.cell? ⟨q, 9, none⟩ = some (.slice none 0 0) ∧ w'.cell? ⟨q, 10, none⟩ = some (.slice none 0 0))
      (first | (go_split_ands; with_reducible (refine ⟨?_, ?_, ?_, ?_, ?_, ?_, ?_, ?_, ?_, ?_, ?_⟩ <;> ((repeat (refine cell_set_far hr0q.out ?_)) <;> assumption))) | (go_split_ands; with_reducible exact ⟨cell_below hB45.out (by assumption), cell_below hB45.out (by assumption), cell_below hB45.out (by assumption), cell_below hB45.out (by assumption), cell_below hB45.out (by assumption), cell_below hB45.out (by assumption), cell_below hB45.out (by assumption), cell_below hB45.out (by assumption), cell_below hB45.out (by assumption), cell_below hB45.out (by assumption), cell_below hB45.out (by assumption)⟩) | (go_split_ands; with_reducible exact ⟨cell_below hB46.out (by assumption), cell_below hB46.out (by assumption), cell_below hB46.out (by assumption), cell_below hB46.out (by assumption), cell_below hB46.out (by assumption), cell_below hB46.out (by assumption), cell_below hB46.out (by assumption), cell_below hB46.out (by assumption), cell_below hB46.out (by assumption), cell_below hB46.out (by assumption), cell_below hB46.out (by assumption)⟩) | (go_split_ands; with_reducible exact ⟨cell_below hB47.out (by assumption), cell_below hB47.out (by assumption), cell_below hB47.out (by assumption), cell_below hB47.out (by assumption), cell_below hB47.out (by assumption), cell_below hB47.out (by assumption), cell_below hB47.out (by assumption), cell_below hB47.out (by assumption), cell_below hB47.out (by assumption), cell_below hB47.out (by assumption), cell_below hB47.out (by assumption)⟩) | (go_split_ands; with_reducible exact ⟨cell_below (below_alloc (Below.refl _ _) _) (by assumption), cell_below (below_alloc (Below.refl _ _) _) (by assumption), cell_below (below_alloc (Below.refl _ _) _) (by assumption), cell_below (below_alloc (Below.refl _ _) _) (by assumption), cell_below (below_alloc (Below.refl _ _) _) (by assumption), cell_below (below_alloc (Below.refl _ _) _) (by assumption), cell_below (below_alloc (Below.refl _ _) _) (by assumption), cell_below (below_alloc (Below.refl _ _) _) (by assumption), cell_below (below_alloc (Below.refl _ _) _) (by assumption), cell_below (below_alloc (Below.refl _ _) _) (by assumption), cell_below (below_alloc (Below.refl _ _) _) (by assumption)⟩) | go_keep)
      ((first
        | (go_at_call 69; refine (Left_s p _ (by first | exact hID.out | exact hID.out.later hB46.out)).mono ?_; rintro e w45 ⟨x45, rfl, hB45_⟩; have hB45 := Lib.hid hB45_; clear hB45_)
        | (go_at_call 37; refine (new_err 6 (by decide) _).mono ?_; rintro e w46 ⟨T46, b46, rfl, hE46_, hB46_⟩; have hE46 := Lib.hid hE46_; have hB46 := Lib.hid hB46_; clear hE46_ hB46_)
        | (go_at_call 36; refine (at_any _ _ 6 _ (by first | exact hE46.out | exact hE46.out.later hB45.out)).mono ?_; rintro e w47 ⟨T47, b47, rfl, hE47_, hB47_⟩; have hB47 := Lib.hid hB47_; clear hE47_ hB47_; have hB3 : Hid (Below w30.drew.heap.size w30.drew w47) := Lib.hid (by first | exact bnext (bnext hB45.out hB46.out) hB47.out | exact bnext (bnext hB46.out hB45.out) hB47.out); have hz47 := block_below hB3.out hzD.out; have z0 : w47.cell? ⟨w.heap.size, 0, none⟩ = some (.int .i64 0) := (block_cell hz47 _).trans rfl; have zf0 : w47.frozen? ⟨w.heap.size, 0, none⟩ = false := block_free hz47 0; have z1 : w47.cell? ⟨w.heap.size, 1, none⟩ = some (.int .i64 0) := (block_cell hz47 _).trans rfl; have zf1 : w47.frozen? ⟨w.heap.size, 1, none⟩ = false := block_free hz47 1; have z2 : w47.cell? ⟨w.heap.size, 2, none⟩ = some (.int .i64 0) := (block_cell hz47 _).trans rfl; have zf2 : w47.frozen? ⟨w.heap.size, 2, none⟩ = false := block_free hz47 2; have z3 : w47.cell? ⟨w.heap.size, 3, none⟩ = some (.int .i64 0) := (block_cell hz47 _).trans rfl; have zf3 : w47.frozen? ⟨w.heap.size, 3, none⟩ = false := block_free hz47 3; have z4 : w47.cell? ⟨w.heap.size, 4, none⟩ = some (.int .i64 0) := (block_cell hz47 _).trans rfl; have zf4 : w47.frozen? ⟨w.heap.size, 4, none⟩ = false := block_free hz47 4; have z5 : w47.cell? ⟨w.heap.size, 5, none⟩ = some (.int .i64 0) := (block_cell hz47 _).trans rfl; have zf5 : w47.frozen? ⟨w.heap.size, 5, none⟩ = false := block_free hz47 5; have z6 : w47.cell? ⟨w.heap.size, 6, none⟩ = some (.int .i64 0) := (block_cell hz47 _).trans rfl; have zf6 : w47.frozen? ⟨w.heap.size, 6, none⟩ = false := block_free hz47 6; have z7 : w47.cell? ⟨w.heap.size, 7, none⟩ = some (.int .i64 0) := (block_cell hz47 _).trans rfl; have zf7 : w47.frozen? ⟨w.heap.size, 7, none⟩ = false := block_free hz47 7; have z8 : w47.cell? ⟨w.heap.size, 8, none⟩ = some (.int .i64 0) := (block_cell hz47 _).trans rfl; have zf8 : w47.frozen? ⟨w.heap.size, 8, none⟩ = false := block_free hz47 8; have z9 : w47.cell? ⟨w.heap.size, 9, none⟩ = some (.slice none 0 0) := (block_cell hz47 _).trans rfl; have zf9 : w47.frozen? ⟨w.heap.size, 9, none⟩ = false := block_free hz47 9; have z10 : w47.cell? ⟨w.heap.size, 10, none⟩ = some (.slice none 0 0) := (block_cell hz47 _).trans rfl; have zf10 : w47.frozen? ⟨w.heap.size, 10, none⟩ = false := block_free hz47 10; clear hz47)))
    all_goals
      have hB4 : Below w30.heap.size w30 w47 := ⟨hB3.out.os, hB3.out.tape, hB3.out.output, hB3.out.size, hB3.out.block⟩
      have hWA : Below w.heap.size w w47 := bnext hZ.out (hB30.out.trans (hB4.mono hB30.out.size))
      obtain ⟨WZ10, hch_, hzA10_, hKc⟩ := msg_stored (block_below hB3.out hzD.out) (.int .i64 kind) (.int .i64 from_) (.int .i64 to_) (.int .i64 gg) (.int .i64 node) (.int .i64 try_) (.int .i64 low) (.int .i64 code) (.int .i64 ticket) (.slice none 0 0) (.slice none 0 0)
      have hCH := Lib.hid hch_
      have hzA10H := Lib.hid hzA10_
      clear hch_ hzA10_
      have hE := Lib.hid (kept_below hWA hKc (by rintro _ rfl; exact Nat.le_refl _))
      have hzA := block_below hB3.out hzD.out
      clear hKc
      clear hWA hB4
      rw [hCH.out]
      have hzA10 := hzA10H.out
      obtain ⟨c0, c1, c2, c3, c4, c5, c6, c7, c8, c9, c10⟩ := msg_cells hzA10
      clear hzA hzA10
      go_wp2_with fail
      refine bodyPost_ret (v := .tuple #[.agg (msgA ⟨kind, from_, to_, gg, node, try_, low, code, ticket, [], []⟩ none 0 none 0), .iface T47 (.pointer (some ⟨b47, 0, none⟩))]) ?_ rfl ⟨⟨kind, from_, to_, gg, node, try_, low, code, ticket, [], []⟩, none, 0, none, 0, .iface T47 (.pointer (some ⟨b47, 0, none⟩)), rfl, ⟨RowAt.nil _ _, RowAt.nil _ _, by simp, by simp, fun o ho => by simp at ho, fun o ho => by simp at ho, fun o ho => by simp at ho, hNUM.out⟩, ⟨fun ad ha => (by cases ha), fun ad hb => (by cases hb)⟩, .inr ⟨T47, b47, rfl⟩, by simp, by simp, hE.out⟩
      simp [results, Tryz.results43, go_sem, msgA, *]
  have d8 : decide ((8 : Int) < n) = false := by simp; omega
  go_wp2_with fail
  go_loopw [53] (fun i wr => ∃ (k : Nat) (told : List Int), k ≤ n ∧ i = .int .u64 k ∧ told.length = k ∧ (∀ x ∈ told, i64ok x) ∧ ∃ tv : Value, wr.heap[q]? = some (.cells #[.int .i64 kind, .int .i64 from_, .int .i64 to_, .int .i64 gg, .int .i64 node, .int .i64 try_, .int .i64 low, .int .i64 code, .int .i64 ticket, tv, .slice none 0 0] 37 (0, 0)) ∧ wr.ownsRow (q + 1) 2 1 tv k (i64s told) ∧ InS wr p ∧ Below W0.heap.size W0 wr) (fun i _ => n - (intOf i).toNat)
  case atStart => exact ⟨0, [], by omega, rfl, rfl, by simp, _, hQ30.out, own_nil _ _ _ _, hI30.out, hB30.out⟩
  case round =>
    obtain ⟨k, told, hk, rfl, hkl, htok_, tv, hQ_, hO_, hI_, hB_⟩ := hrel
    obtain ⟨Atv, ctv, rfl⟩ := own_slice hO_
    have hQ := Lib.hid hQ_
    have hO := Lib.hid hO_
    have hB := Lib.hid hB_
    have hI := Lib.hid hI_
    have htok := Lib.hid htok_
    have hKL := Lib.hid hkl
    by_cases hlt : k < n
    · have dk : decide (k < n) = true := by simpa using hlt
      have hc : wr.cell? ⟨q, 9, none⟩ = some (.slice Atv k ctv) := by rw [block_cell hQ_]; rfl
      have hf : wr.frozen? ⟨q, 9, none⟩ = false := block_free hQ_ 9
      have hql := lt_of_block hQ_
      have hID : Hid (InS wr.drew p) := Lib.hid (hI.out.later (Below.refl _ _).drew)
      have hOD : Hid (wr.drew.ownsRow (q + 1) 2 1 (.slice Atv k ctv) k (i64s told)) := Lib.hid hO_
      have hqd : Hid (q < wr.drew.heap.size) := Lib.hid hql
      have hqp : Hid (q ≠ p) := Lib.hid (by omega)
      have hne : Hid (some q ≠ (Value.slice Atv k ctv).ownBlock) := Lib.hid (fun h => by have := own_ge hO_ _ h.symm; omega)
      clear hI_ hO_ hB_ hQ_ htok_ hkl
      go_wp2_with fail
      go_region_law (first
          | (go_simp; go_at_call 70; refine (Num_s p _ hID.out).mono ?_; rintro e w33 ⟨x, rfl, hx33_, hI33_, hK33_⟩; have hX33 := Lib.hid hx33_; have hI33 := Lib.hid hI33_; have hK33 := Lib.hid hK33_; have hc33 : w33.cell? ⟨q, 9, none⟩ = some (.slice Atv k ctv) := (World.cell?_of_block (hK33_.block q hqd.out hqp.out)).trans hc; have hf33 : w33.frozen? ⟨q, 9, none⟩ = false := (World.frozen?_of_block (hK33_.block q hqd.out hqp.out)).trans hf; have hcA : (w33.alloc (.cells #[.int .i64 x] 2)).cell? ⟨q, 9, none⟩ = some (.slice Atv k ctv) := cell_below (below_alloc (Below.refl _ _) _) hc33; clear hI33_ hK33_ hx33_)
          | (refine step_of_wp rfl ?_; refine wp_append_row _ _ 28 rfl (q + 1) 2 _ 1 8 Tryz.underlying28 Tryz.infoI64 rfl (by decide) (by decide) (.slice Atv k ctv) k (i64s told) rfl (own_below (own_kept hOD.out hK33.out (by rintro j hj rfl; omega)) (below_alloc (Below.refl _ _) _)) (some ⟨w33.heap.size, 0, none⟩) 1 1 [.int .i64 x] rfl (fun h => by cases h) (Nat.le_refl _) rfl (RowAt.made rfl) (by simp [Value.oneCell']) (by omega) (by have := hK33.out.size; rw [World.size_alloc]; show q + 1 ≤ _; have : wr.heap.size ≤ w33.heap.size := this; omega) ?_; intro v9 w9 hO9_ hG9_ _; obtain ⟨A9, c9, rfl⟩ := own_slice hO9_; have hO9 := Lib.hid hO9_; have hG9 := Lib.hid hG9_; have hb9 := hG9_.block q (by rw [World.size_alloc]; have := hK33.out.size; have := hqd.out; omega) hne.out; have hc9 : w9.cell? ⟨q, 9, none⟩ = some (.slice Atv k ctv) := (World.cell?_of_block hb9).trans hcA; have hf9 : w9.frozen? ⟨q, 9, none⟩ = false := (World.frozen?_of_block hb9).trans ((World.frozen?_of_block ((below_alloc (Below.refl _ _) _).block q (by have := hK33.out.size; have := hqd.out; omega))).trans hf33); clear hO9_ hG9_ hb9))
      all_goals
        have hK33' : Kept (· = p) wr w33 := ⟨hK33.out.os, hK33.out.tape, hK33.out.output, hK33.out.size, hK33.out.block⟩
        have hAL := below_alloc (Below.refl _ w33) (.cells #[.int .i64 x] 2)
        have hBA : Below W0.heap.size W0 (w33.alloc (.cells #[.int .i64 x] 2)) := (kept_below hB.out hK33' (by rintro _ rfl; omega)).trans (hAL.mono (Nat.le_trans hB.out.size hK33'.size))
        have hB9 : Below W0.heap.size W0 w9 := hBA.grown hG9.out hBA.size (fun j hj => by have := own_ge hO.out j hj; omega)
        have hqA : q < (w33.alloc (.cells #[.int .i64 x] 2)).heap.size := by rw [World.size_alloc]; have := hK33'.size; omega
        have hOA := own_below (own_kept hOD.out hK33.out (by rintro j hj rfl; omega)) hAL
        have hI9 := (hI33.out.later hAL).kept (Kept.of_grown hG9.out) (fun j hj => ⟨by have := own_ge hOA j hj; omega, by obtain ⟨cur, hcc⟩ := own_type hOA hj; exact ⟨_, _, _, hcc, int64_noFault⟩⟩)
        have hQ9 := (hG9.out.block q hqA hne.out).trans ((hAL.block q (by have := hK33'.size; omega)).trans ((hK33'.block q hql hqp.out).trans hQ.out))
        have s9 := Lib.hid (msg_stepS (w := W0) 9 (.slice A9 (k + 1) c9) hI9 hQ9 hB9 mess_noFault hpq hp)
        have o9 := Lib.hid (own_move (w1 := w9.setCell ⟨q, 9, none⟩ (.slice A9 (k + 1) c9)) hO9.out fun j hj => Below.heap_setCell _ _ _ _ (by have := own_ge hO9.out j hj; show j ≠ q; omega))
        clear hK33' hAL hBA hB9 hqA hI9 hQ9 hOA hcA hc33 hf33 hc9 hf9 hK33 hI33 hG9 hc hf
        go_wp2_with fail
        go_roundw
        case rel => exact ⟨k + 1, told ++ [x], by omega, by go_num, by simp [hKL.out], fun y hy => (List.mem_append.1 hy).elim (htok.out y) (fun h => by simp at h; subst h; exact hX33.out), _, s9.out.2.1, by rw [show i64s (told ++ [x]) = i64s told ++ [.int .i64 x] by simp [i64s]]; exact o9.out, s9.out.1, s9.out.2.2⟩
        case measure => simp [intOf]; omega
    · obtain rfl : k = n := by omega
      clear hI_ hO_ hB_ hQ_ htok_ hlt
      go_wp2_with fail
      refine (Str_s 400 p _ hI.out (by omega)).mono ?_
      rintro e w40 ⟨str, rfl, hstr, hI40_, hK40_⟩
      have hI40 := Lib.hid hI40_
      have hQ40 := Lib.hid ((hK40_.block q (lt_of_block hQ.out) (by omega)).trans hQ.out)
      have hB40 := Lib.hid (kept_below hB.out hK40_ (by rintro _ rfl; omega))
      have hO40 := Lib.hid (own_kept hO.out hK40_ (by rintro j hj rfl; omega))
      clear hI40_ hK40_ hI hQ hB hO
      go_wp2_with (refine list_of_wp rfl ?_; refine wp_conv_SB (.tmp 65) str (by omega) rfl rfl ?_; intro A41 c41 w41 hR41_ hB41_)
      have hR41 := Lib.hid hR41_
      have hB41 := Lib.hid hB41_
      clear hR41_ hB41_
      go_wp2_with fail
      refine (opsDec_s _ _ _ hR41.out (by simp; omega) (hG0.out.below (hB40.out.trans (hB41.out.mono hB40.out.size)))).mono ?_
      rintro e w42 ⟨A42, c42, ops, x42, rfl, hO42_, hol, hops_, hB42_⟩
      have hops := Lib.hid hops_
      have hO42 := Lib.hid hO42_
      have hB42 := Lib.hid (bnext hB41.out hB42_)
      have hQ42 := Lib.hid (block_below hB42.out hQ40.out)
      have hI42 := Lib.hid (hI40.out.later hB42.out)
      have hW42 := Lib.hid (hB40.out.trans (hB42.out.mono hB40.out.size))
      have hT42 := Lib.hid (own_below hO40.out hB42.out)
      have f10 : w42.frozen? ⟨q, 10, none⟩ = false := block_free hQ42.out 10
      have x10 : w42.cell? ⟨q, 10, none⟩ = some (.slice none 0 0) := by rw [block_cell hQ42.out]; rfl
      have hqX : q < w41.heap.size := lt_of_block (block_below hB41.out hQ40.out)
      clear hO42_ hB42_ hR41 hB41 hO40 hB42 hQ40 hI40 hB40 hops_
      go_wp2_with fail
      have s10 := Lib.hid (msg_stepS (w := W0) 10 (.slice A42 ops.length c42) hI42.out hQ42.out hW42.out mess_noFault hpq hp)
      have hT43 := Lib.hid (own_move (w1 := w42.setCell ⟨q, 10, none⟩ (.slice A42 ops.length c42)) hT42.out fun j hj => Below.heap_setCell _ _ _ _ (by have := own_ge hT42.out j hj; show j ≠ q; omega))
      have hO43 := Lib.hid (own_move (w1 := w42.setCell ⟨q, 10, none⟩ (.slice A42 ops.length c42)) hO42.out fun j hj => Below.heap_setCell _ _ _ _ (by have := own_ge hO42.out j hj; show j ≠ q; omega))
      generalize w42.setCell ⟨q, 10, none⟩ (.slice A42 ops.length c42) = W43 at *
      subst hkl
      have hQ43 : W43.heap[q]? = some (.cells #[.int .i64 kind, .int .i64 from_, .int .i64 to_, .int .i64 gg, .int .i64 node, .int .i64 try_, .int .i64 low, .int .i64 code, .int .i64 ticket, .slice Atv told.length ctv, .slice A42 ops.length c42] 37 (0, 0)) := s10.out.2.1
      have hW43 := Lib.hid s10.out.2.2
      have hG43 : Hid (GOk W43.drew) := Lib.hid (hG0.out.below hW43.out.drew)
      have hzD : Hid (W43.drew.heap[w.heap.size]? = _) := Lib.hid ((hW43.out.block _ hp0).trans hZb.out)
      have hzlt : Hid (w.heap.size < W43.drew.heap.size) := Lib.hid (Nat.lt_of_lt_of_le hp0 hW43.out.size)
      have hzne : Hid (¬ w.heap.size = p) := Lib.hid (by omega)
      have hqp9 : Hid (q ≠ p) := Lib.hid (by omega)
      obtain ⟨y0, y1, y2, y3, y4, y5, y6, y7, y8, y9, y10⟩ := msg_cells hQ43
      clear hI42 hQ42 hW42 hT42 hO42 f10 x10 hQ43
      have hS9 := Lib.hid s10.out.1
      clear s10
      by_cases hx0 : x42 = 0
      · subst hx0
        rcases hS9.out.ends with hend | hend
        · have hEND : Hid (AtEnd W43.drew p) := Lib.hid (hend.later (Below.refl _ _).drew)
          clear hend
          go_wp2_with fail
          go_region_held3 (fun w' => w'.cell? ⟨q, 0, none⟩ = some (.int .i64 kind) ∧ w'.cell? ⟨q, 1, none⟩ = some (.int .i64 from_) ∧ w'.cell? ⟨q, 2, none⟩ = some (.int .i64 to_) ∧ w'.cell? ⟨q, 3, none⟩ = some (.int .i64 gg) ∧ w'.cell? ⟨q, 4, none⟩ = some (.int .i64 node) ∧ w'.cell? ⟨q, 5, none⟩ = some (.int .i64 try_) ∧ w'.cell? ⟨q, 6, none⟩ = some (.int .i64 low) ∧ w'.cell? ⟨q, 7, none⟩ = some (.int .i64 code) ∧ w'.cell? ⟨q, 8, none⟩ = some (.int .i64 ticket) ∧ w'.cell? ⟨q, 9, none⟩ = some (.slice Atv told.length ctv) ∧ w'.cell? ⟨q, 10, none⟩ = some (.slice A42 ops.length c42))
            (first | (go_split_ands; with_reducible (refine ⟨?_, ?_, ?_, ?_, ?_, ?_, ?_, ?_, ?_, ?_, ?_⟩ <;> ((repeat (refine cell_set_far hr0q.out ?_)) <;> assumption))) | (go_split_ands; with_reducible exact ⟨cell_below hB50.out (by assumption), cell_below hB50.out (by assumption), cell_below hB50.out (by assumption), cell_below hB50.out (by assumption), cell_below hB50.out (by assumption), cell_below hB50.out (by assumption), cell_below hB50.out (by assumption), cell_below hB50.out (by assumption), cell_below hB50.out (by assumption), cell_below hB50.out (by assumption), cell_below hB50.out (by assumption)⟩) | (go_split_ands; with_reducible exact ⟨cell_below hB52.out (by assumption), cell_below hB52.out (by assumption), cell_below hB52.out (by assumption), cell_below hB52.out (by assumption), cell_below hB52.out (by assumption), cell_below hB52.out (by assumption), cell_below hB52.out (by assumption), cell_below hB52.out (by assumption), cell_below hB52.out (by assumption), cell_below hB52.out (by assumption), cell_below hB52.out (by assumption)⟩) | (go_split_ands; with_reducible exact ⟨cell_below (below_alloc (Below.refl _ _) _) (by assumption), cell_below (below_alloc (Below.refl _ _) _) (by assumption), cell_below (below_alloc (Below.refl _ _) _) (by assumption), cell_below (below_alloc (Below.refl _ _) _) (by assumption), cell_below (below_alloc (Below.refl _ _) _) (by assumption), cell_below (below_alloc (Below.refl _ _) _) (by assumption), cell_below (below_alloc (Below.refl _ _) _) (by assumption), cell_below (below_alloc (Below.refl _ _) _) (by assumption), cell_below (below_alloc (Below.refl _ _) _) (by assumption), cell_below (below_alloc (Below.refl _ _) _) (by assumption), cell_below (below_alloc (Below.refl _ _) _) (by assumption)⟩) | go_keep)
            ((first
              | (go_at_call 74; refine (End_o p _ hEND.out).mono ?_; rintro e w50 ⟨rfl, hB50_⟩; have hB50 := Lib.hid hB50_; clear hB50_)
              | (go_at_call 37; (with_reducible refine (new_ok _).mono ?_); rintro e w51 ⟨rfl, rfl⟩)
              | (go_at_call 73; refine (first_o _ _ (RowAt.made (cs := #[.nilIface, .nilIface]) rfl)).mono ?_; rintro e w52 ⟨rfl, hB52_⟩; have hB52 := Lib.hid hB52_; clear hB52_; have hKP : Hid (Kept (· = p) W43.drew w52) := Lib.hid (by exact ((Kept.of_below (· = p) hB50.out).alloc _).below hB52.out); have hz52 := (hKP.out.block _ hzlt.out hzne.out).trans hzD.out; have z0 : w52.cell? ⟨w.heap.size, 0, none⟩ = some (.int .i64 0) := (block_cell hz52 _).trans rfl; have zf0 : w52.frozen? ⟨w.heap.size, 0, none⟩ = false := block_free hz52 0; have z1 : w52.cell? ⟨w.heap.size, 1, none⟩ = some (.int .i64 0) := (block_cell hz52 _).trans rfl; have zf1 : w52.frozen? ⟨w.heap.size, 1, none⟩ = false := block_free hz52 1; have z2 : w52.cell? ⟨w.heap.size, 2, none⟩ = some (.int .i64 0) := (block_cell hz52 _).trans rfl; have zf2 : w52.frozen? ⟨w.heap.size, 2, none⟩ = false := block_free hz52 2; have z3 : w52.cell? ⟨w.heap.size, 3, none⟩ = some (.int .i64 0) := (block_cell hz52 _).trans rfl; have zf3 : w52.frozen? ⟨w.heap.size, 3, none⟩ = false := block_free hz52 3; have z4 : w52.cell? ⟨w.heap.size, 4, none⟩ = some (.int .i64 0) := (block_cell hz52 _).trans rfl; have zf4 : w52.frozen? ⟨w.heap.size, 4, none⟩ = false := block_free hz52 4; have z5 : w52.cell? ⟨w.heap.size, 5, none⟩ = some (.int .i64 0) := (block_cell hz52 _).trans rfl; have zf5 : w52.frozen? ⟨w.heap.size, 5, none⟩ = false := block_free hz52 5; have z6 : w52.cell? ⟨w.heap.size, 6, none⟩ = some (.int .i64 0) := (block_cell hz52 _).trans rfl; have zf6 : w52.frozen? ⟨w.heap.size, 6, none⟩ = false := block_free hz52 6; have z7 : w52.cell? ⟨w.heap.size, 7, none⟩ = some (.int .i64 0) := (block_cell hz52 _).trans rfl; have zf7 : w52.frozen? ⟨w.heap.size, 7, none⟩ = false := block_free hz52 7; have z8 : w52.cell? ⟨w.heap.size, 8, none⟩ = some (.int .i64 0) := (block_cell hz52 _).trans rfl; have zf8 : w52.frozen? ⟨w.heap.size, 8, none⟩ = false := block_free hz52 8; have z9 : w52.cell? ⟨w.heap.size, 9, none⟩ = some (.slice none 0 0) := (block_cell hz52 _).trans rfl; have zf9 : w52.frozen? ⟨w.heap.size, 9, none⟩ = false := block_free hz52 9; have z10 : w52.cell? ⟨w.heap.size, 10, none⟩ = some (.slice none 0 0) := (block_cell hz52 _).trans rfl; have zf10 : w52.frozen? ⟨w.heap.size, 10, none⟩ = false := block_free hz52 10; clear hz52)))
          all_goals
            have hKQ : Kept (· = p) W43 w52 := ⟨hKP.out.os, hKP.out.tape, hKP.out.output, hKP.out.size, hKP.out.block⟩
            have hWA : Below w.heap.size w w52 := bnext hZ.out (kept_below hW43.out hKQ (by rintro _ rfl; omega))
            obtain ⟨WZ10, hch_, hzA10_, hKc⟩ := msg_stored ((hKP.out.block _ hzlt.out hzne.out).trans hzD.out) (.int .i64 kind) (.int .i64 from_) (.int .i64 to_) (.int .i64 gg) (.int .i64 node) (.int .i64 try_) (.int .i64 low) (.int .i64 code) (.int .i64 ticket) (.slice Atv told.length ctv) (.slice A42 ops.length c42)
            have hCH := Lib.hid hch_
            have hzA10H := Lib.hid hzA10_
            clear hch_ hzA10_
            have hE := Lib.hid (kept_below hWA hKc (by rintro _ rfl; exact Nat.le_refl _))
            have hTF := Lib.hid (own_kept (own_kept hT43.out hKQ (by rintro j hj rfl; omega)) hKc (by rintro j hj rfl; omega))
            have hOF := Lib.hid (own_kept (own_kept hO43.out hKQ (by rintro j hj rfl; omega)) hKc (by rintro j hj rfl; omega))
            have hzA := (hKP.out.block _ hzlt.out hzne.out).trans hzD.out
            clear hKc
            clear hWA hKQ
            rw [hCH.out]
            have hzA10 := hzA10H.out
            obtain ⟨c0, c1, c2, c3, c4, c5, c6, c7, c8, c9, c10⟩ := msg_cells hzA10
            clear hzA hzA10
            go_wp2_with fail
            refine bodyPost_ret (v := .tuple #[.agg (msgA ⟨kind, from_, to_, gg, node, try_, low, code, ticket, told, ops⟩ Atv ctv A42 c42), .nilIface]) ?_ rfl ⟨⟨kind, from_, to_, gg, node, try_, low, code, ticket, told, ops⟩, Atv, ctv, A42, c42, .nilIface, rfl, ⟨RowAt.of_own hTF.out rfl, RowAt.of_own hOF.out rfl, by show told.length ≤ _; omega, by show ops.length ≤ _; omega, fun o ho => Nat.le_trans (hops.out o ho).2 (by decide), htok.out, fun o ho => (hops.out o ho).1, hNUM.out⟩, ⟨fun ad ha => ?_, fun ad hb => ?_⟩, .inl rfl, by show told.length ≤ 8; omega, by show ops.length ≤ 64; omega, hE.out⟩
            · simp [results, Tryz.results43, go_sem, msgA, *]
            · have := own_ge hTF.out ad.block (by rw [ha]; rfl)
              omega
            · have := own_ge hOF.out ad.block (by rw [hb]; rfl)
              omega
        · have hEND : Hid (NotEnd W43.drew p) := Lib.hid (hend.later (Below.refl _ _).drew)
          clear hend
          go_wp2_with fail
          go_region_held3 (fun w' => w'.cell? ⟨q, 0, none⟩ = some (.int .i64 kind) ∧ w'.cell? ⟨q, 1, none⟩ = some (.int .i64 from_) ∧ w'.cell? ⟨q, 2, none⟩ = some (.int .i64 to_) ∧ w'.cell? ⟨q, 3, none⟩ = some (.int .i64 gg) ∧ w'.cell? ⟨q, 4, none⟩ = some (.int .i64 node) ∧ w'.cell? ⟨q, 5, none⟩ = some (.int .i64 try_) ∧ w'.cell? ⟨q, 6, none⟩ = some (.int .i64 low) ∧ w'.cell? ⟨q, 7, none⟩ = some (.int .i64 code) ∧ w'.cell? ⟨q, 8, none⟩ = some (.int .i64 ticket) ∧ w'.cell? ⟨q, 9, none⟩ = some (.slice Atv told.length ctv) ∧ w'.cell? ⟨q, 10, none⟩ = some (.slice A42 ops.length c42))
            (first | (go_split_ands; with_reducible (refine ⟨?_, ?_, ?_, ?_, ?_, ?_, ?_, ?_, ?_, ?_, ?_⟩ <;> ((repeat (refine cell_set_far hr0q.out ?_)) <;> assumption))) | (go_split_ands; with_reducible exact ⟨cell_keptP hK50.out hqp9.out (by assumption), cell_keptP hK50.out hqp9.out (by assumption), cell_keptP hK50.out hqp9.out (by assumption), cell_keptP hK50.out hqp9.out (by assumption), cell_keptP hK50.out hqp9.out (by assumption), cell_keptP hK50.out hqp9.out (by assumption), cell_keptP hK50.out hqp9.out (by assumption), cell_keptP hK50.out hqp9.out (by assumption), cell_keptP hK50.out hqp9.out (by assumption), cell_keptP hK50.out hqp9.out (by assumption), cell_keptP hK50.out hqp9.out (by assumption)⟩) | (go_split_ands; with_reducible exact ⟨cell_below hB51.out (by assumption), cell_below hB51.out (by assumption), cell_below hB51.out (by assumption), cell_below hB51.out (by assumption), cell_below hB51.out (by assumption), cell_below hB51.out (by assumption), cell_below hB51.out (by assumption), cell_below hB51.out (by assumption), cell_below hB51.out (by assumption), cell_below hB51.out (by assumption), cell_below hB51.out (by assumption)⟩) | (go_split_ands; with_reducible exact ⟨cell_below hB52.out (by assumption), cell_below hB52.out (by assumption), cell_below hB52.out (by assumption), cell_below hB52.out (by assumption), cell_below hB52.out (by assumption), cell_below hB52.out (by assumption), cell_below hB52.out (by assumption), cell_below hB52.out (by assumption), cell_below hB52.out (by assumption), cell_below hB52.out (by assumption), cell_below hB52.out (by assumption)⟩) | (go_split_ands; with_reducible exact ⟨cell_below (below_alloc (Below.refl _ _) _) (by assumption), cell_below (below_alloc (Below.refl _ _) _) (by assumption), cell_below (below_alloc (Below.refl _ _) _) (by assumption), cell_below (below_alloc (Below.refl _ _) _) (by assumption), cell_below (below_alloc (Below.refl _ _) _) (by assumption), cell_below (below_alloc (Below.refl _ _) _) (by assumption), cell_below (below_alloc (Below.refl _ _) _) (by assumption), cell_below (below_alloc (Below.refl _ _) _) (by assumption), cell_below (below_alloc (Below.refl _ _) _) (by assumption), cell_below (below_alloc (Below.refl _ _) _) (by assumption), cell_below (below_alloc (Below.refl _ _) _) (by assumption)⟩) | go_keep)
            ((first
              | (go_at_call 74; refine (End_b p _ hEND.out hG43.out).mono ?_; rintro e w50 ⟨x50, rfl, hx50_, hI50_, hK50_⟩; have hx50 := Lib.hid hx50_; have hK50 := Lib.hid hK50_; clear hI50_ hK50_ hx50_)
              | (go_at_call 37; (with_reducible refine (new_ok _).mono ?_); rintro e w51 ⟨rfl, rfl⟩)
              | (go_at_call 37; (with_reducible refine (new_err x50 hx50.out _).mono ?_); rintro e w51 ⟨T51, b51, rfl, hE51_, hB51_⟩; have hB51 := Lib.hid hB51_; clear hE51_ hB51_)
              | (go_at_call 73; refine (first_e _ b51 T51 .nilIface _ (RowAt.made (cs := #[.iface T51 (.pointer (some ⟨b51, 0, none⟩)), .nilIface]) rfl)).mono ?_; rintro e w52 ⟨rfl, hB52_⟩; have hB52 := Lib.hid hB52_; clear hB52_; have hKP : Hid (Kept (· = p) W43.drew w52) := Lib.hid (by exact ((hK50.out.below hB51.out).alloc _).below hB52.out); have hz52 := (hKP.out.block _ hzlt.out hzne.out).trans hzD.out; have z0 : w52.cell? ⟨w.heap.size, 0, none⟩ = some (.int .i64 0) := (block_cell hz52 _).trans rfl; have zf0 : w52.frozen? ⟨w.heap.size, 0, none⟩ = false := block_free hz52 0; have z1 : w52.cell? ⟨w.heap.size, 1, none⟩ = some (.int .i64 0) := (block_cell hz52 _).trans rfl; have zf1 : w52.frozen? ⟨w.heap.size, 1, none⟩ = false := block_free hz52 1; have z2 : w52.cell? ⟨w.heap.size, 2, none⟩ = some (.int .i64 0) := (block_cell hz52 _).trans rfl; have zf2 : w52.frozen? ⟨w.heap.size, 2, none⟩ = false := block_free hz52 2; have z3 : w52.cell? ⟨w.heap.size, 3, none⟩ = some (.int .i64 0) := (block_cell hz52 _).trans rfl; have zf3 : w52.frozen? ⟨w.heap.size, 3, none⟩ = false := block_free hz52 3; have z4 : w52.cell? ⟨w.heap.size, 4, none⟩ = some (.int .i64 0) := (block_cell hz52 _).trans rfl; have zf4 : w52.frozen? ⟨w.heap.size, 4, none⟩ = false := block_free hz52 4; have z5 : w52.cell? ⟨w.heap.size, 5, none⟩ = some (.int .i64 0) := (block_cell hz52 _).trans rfl; have zf5 : w52.frozen? ⟨w.heap.size, 5, none⟩ = false := block_free hz52 5; have z6 : w52.cell? ⟨w.heap.size, 6, none⟩ = some (.int .i64 0) := (block_cell hz52 _).trans rfl; have zf6 : w52.frozen? ⟨w.heap.size, 6, none⟩ = false := block_free hz52 6; have z7 : w52.cell? ⟨w.heap.size, 7, none⟩ = some (.int .i64 0) := (block_cell hz52 _).trans rfl; have zf7 : w52.frozen? ⟨w.heap.size, 7, none⟩ = false := block_free hz52 7; have z8 : w52.cell? ⟨w.heap.size, 8, none⟩ = some (.int .i64 0) := (block_cell hz52 _).trans rfl; have zf8 : w52.frozen? ⟨w.heap.size, 8, none⟩ = false := block_free hz52 8; have z9 : w52.cell? ⟨w.heap.size, 9, none⟩ = some (.slice none 0 0) := (block_cell hz52 _).trans rfl; have zf9 : w52.frozen? ⟨w.heap.size, 9, none⟩ = false := block_free hz52 9; have z10 : w52.cell? ⟨w.heap.size, 10, none⟩ = some (.slice none 0 0) := (block_cell hz52 _).trans rfl; have zf10 : w52.frozen? ⟨w.heap.size, 10, none⟩ = false := block_free hz52 10; clear hz52)))
          all_goals
            have hKQ : Kept (· = p) W43 w52 := ⟨hKP.out.os, hKP.out.tape, hKP.out.output, hKP.out.size, hKP.out.block⟩
            have hWA : Below w.heap.size w w52 := bnext hZ.out (kept_below hW43.out hKQ (by rintro _ rfl; omega))
            obtain ⟨WZ10, hch_, hzA10_, hKc⟩ := msg_stored ((hKP.out.block _ hzlt.out hzne.out).trans hzD.out) (.int .i64 kind) (.int .i64 from_) (.int .i64 to_) (.int .i64 gg) (.int .i64 node) (.int .i64 try_) (.int .i64 low) (.int .i64 code) (.int .i64 ticket) (.slice Atv told.length ctv) (.slice A42 ops.length c42)
            have hCH := Lib.hid hch_
            have hzA10H := Lib.hid hzA10_
            clear hch_ hzA10_
            have hE := Lib.hid (kept_below hWA hKc (by rintro _ rfl; exact Nat.le_refl _))
            have hTF := Lib.hid (own_kept (own_kept hT43.out hKQ (by rintro j hj rfl; omega)) hKc (by rintro j hj rfl; omega))
            have hOF := Lib.hid (own_kept (own_kept hO43.out hKQ (by rintro j hj rfl; omega)) hKc (by rintro j hj rfl; omega))
            have hzA := (hKP.out.block _ hzlt.out hzne.out).trans hzD.out
            clear hKc
            clear hWA hKQ
            rw [hCH.out]
            have hzA10 := hzA10H.out
            obtain ⟨c0, c1, c2, c3, c4, c5, c6, c7, c8, c9, c10⟩ := msg_cells hzA10
            clear hzA hzA10
            go_wp2_with fail
            refine bodyPost_ret (v := .tuple #[.agg (msgA ⟨kind, from_, to_, gg, node, try_, low, code, ticket, told, ops⟩ Atv ctv A42 c42), .iface T51 (.pointer (some ⟨b51, 0, none⟩))]) ?_ rfl ⟨⟨kind, from_, to_, gg, node, try_, low, code, ticket, told, ops⟩, Atv, ctv, A42, c42, .iface T51 (.pointer (some ⟨b51, 0, none⟩)), rfl, ⟨RowAt.of_own hTF.out rfl, RowAt.of_own hOF.out rfl, by show told.length ≤ _; omega, by show ops.length ≤ _; omega, fun o ho => Nat.le_trans (hops.out o ho).2 (by decide), htok.out, fun o ho => (hops.out o ho).1, hNUM.out⟩, ⟨fun ad ha => ?_, fun ad hb => ?_⟩, .inr ⟨T51, b51, rfl⟩, by show told.length ≤ 8; omega, by show ops.length ≤ 64; omega, hE.out⟩
            · simp [results, Tryz.results43, go_sem, msgA, *]
            · have := own_ge hTF.out ad.block (by rw [ha]; rfl)
              omega
            · have := own_ge hOF.out ad.block (by rw [hb]; rfl)
              omega
      · have hx42 := Lib.hid hx0
        clear hx0
        rcases hS9.out.ends with hend | hend
        · have hEND : Hid (AtEnd W43.drew p) := Lib.hid (hend.later (Below.refl _ _).drew)
          clear hend
          go_wp2_with fail
          go_region_held3 (fun w' => w'.cell? ⟨q, 0, none⟩ = some (.int .i64 kind) ∧ w'.cell? ⟨q, 1, none⟩ = some (.int .i64 from_) ∧ w'.cell? ⟨q, 2, none⟩ = some (.int .i64 to_) ∧ w'.cell? ⟨q, 3, none⟩ = some (.int .i64 gg) ∧ w'.cell? ⟨q, 4, none⟩ = some (.int .i64 node) ∧ w'.cell? ⟨q, 5, none⟩ = some (.int .i64 try_) ∧ w'.cell? ⟨q, 6, none⟩ = some (.int .i64 low) ∧ w'.cell? ⟨q, 7, none⟩ = some (.int .i64 code) ∧ w'.cell? ⟨q, 8, none⟩ = some (.int .i64 ticket) ∧ w'.cell? ⟨q, 9, none⟩ = some (.slice Atv told.length ctv) ∧ w'.cell? ⟨q, 10, none⟩ = some (.slice A42 ops.length c42))
            (first | (go_split_ands; with_reducible (refine ⟨?_, ?_, ?_, ?_, ?_, ?_, ?_, ?_, ?_, ?_, ?_⟩ <;> ((repeat (refine cell_set_far hr0q.out ?_)) <;> assumption))) | (go_split_ands; with_reducible exact ⟨cell_below hB50.out (by assumption), cell_below hB50.out (by assumption), cell_below hB50.out (by assumption), cell_below hB50.out (by assumption), cell_below hB50.out (by assumption), cell_below hB50.out (by assumption), cell_below hB50.out (by assumption), cell_below hB50.out (by assumption), cell_below hB50.out (by assumption), cell_below hB50.out (by assumption), cell_below hB50.out (by assumption)⟩) | (go_split_ands; with_reducible exact ⟨cell_below hB53.out (by assumption), cell_below hB53.out (by assumption), cell_below hB53.out (by assumption), cell_below hB53.out (by assumption), cell_below hB53.out (by assumption), cell_below hB53.out (by assumption), cell_below hB53.out (by assumption), cell_below hB53.out (by assumption), cell_below hB53.out (by assumption), cell_below hB53.out (by assumption), cell_below hB53.out (by assumption)⟩) | (go_split_ands; with_reducible exact ⟨cell_below hB52.out (by assumption), cell_below hB52.out (by assumption), cell_below hB52.out (by assumption), cell_below hB52.out (by assumption), cell_below hB52.out (by assumption), cell_below hB52.out (by assumption), cell_below hB52.out (by assumption), cell_below hB52.out (by assumption), cell_below hB52.out (by assumption), cell_below hB52.out (by assumption), cell_below hB52.out (by assumption)⟩) | (go_split_ands; with_reducible exact ⟨cell_below (below_alloc (Below.refl _ _) _) (by assumption), cell_below (below_alloc (Below.refl _ _) _) (by assumption), cell_below (below_alloc (Below.refl _ _) _) (by assumption), cell_below (below_alloc (Below.refl _ _) _) (by assumption), cell_below (below_alloc (Below.refl _ _) _) (by assumption), cell_below (below_alloc (Below.refl _ _) _) (by assumption), cell_below (below_alloc (Below.refl _ _) _) (by assumption), cell_below (below_alloc (Below.refl _ _) _) (by assumption), cell_below (below_alloc (Below.refl _ _) _) (by assumption), cell_below (below_alloc (Below.refl _ _) _) (by assumption), cell_below (below_alloc (Below.refl _ _) _) (by assumption)⟩) | go_keep)
            ((first
              | (go_at_call 74; refine (End_o p _ (by first | exact hEND.out | exact hEND.out.later hB53.out)).mono ?_; rintro e w50 ⟨rfl, hB50_⟩; have hB50 := Lib.hid hB50_; clear hB50_)
              | (go_at_call 37; (with_reducible refine (new_ok _).mono ?_); rintro e w51 ⟨rfl, rfl⟩)
              | (go_at_call 37; (with_reducible refine (new_err x42 hx42.out _).mono ?_); rintro e w53 ⟨T53, b53, rfl, hE53_, hB53_⟩; have hB53 := Lib.hid hB53_; clear hE53_ hB53_)
              | (go_at_call 73; refine (first_n _ b53 T53 _ (RowAt.made (cs := #[.nilIface, .iface T53 (.pointer (some ⟨b53, 0, none⟩))]) rfl)).mono ?_; rintro e w52 ⟨rfl, hB52_⟩; have hB52 := Lib.hid hB52_; clear hB52_; have hKP : Hid (Kept (· = p) W43.drew w52) := Lib.hid (by first | exact (((Kept.of_below (· = p) hB50.out).below hB53.out).alloc _).below hB52.out | exact (((Kept.of_below (· = p) hB53.out).below hB50.out).alloc _).below hB52.out); have hz52 := (hKP.out.block _ hzlt.out hzne.out).trans hzD.out; have z0 : w52.cell? ⟨w.heap.size, 0, none⟩ = some (.int .i64 0) := (block_cell hz52 _).trans rfl; have zf0 : w52.frozen? ⟨w.heap.size, 0, none⟩ = false := block_free hz52 0; have z1 : w52.cell? ⟨w.heap.size, 1, none⟩ = some (.int .i64 0) := (block_cell hz52 _).trans rfl; have zf1 : w52.frozen? ⟨w.heap.size, 1, none⟩ = false := block_free hz52 1; have z2 : w52.cell? ⟨w.heap.size, 2, none⟩ = some (.int .i64 0) := (block_cell hz52 _).trans rfl; have zf2 : w52.frozen? ⟨w.heap.size, 2, none⟩ = false := block_free hz52 2; have z3 : w52.cell? ⟨w.heap.size, 3, none⟩ = some (.int .i64 0) := (block_cell hz52 _).trans rfl; have zf3 : w52.frozen? ⟨w.heap.size, 3, none⟩ = false := block_free hz52 3; have z4 : w52.cell? ⟨w.heap.size, 4, none⟩ = some (.int .i64 0) := (block_cell hz52 _).trans rfl; have zf4 : w52.frozen? ⟨w.heap.size, 4, none⟩ = false := block_free hz52 4; have z5 : w52.cell? ⟨w.heap.size, 5, none⟩ = some (.int .i64 0) := (block_cell hz52 _).trans rfl; have zf5 : w52.frozen? ⟨w.heap.size, 5, none⟩ = false := block_free hz52 5; have z6 : w52.cell? ⟨w.heap.size, 6, none⟩ = some (.int .i64 0) := (block_cell hz52 _).trans rfl; have zf6 : w52.frozen? ⟨w.heap.size, 6, none⟩ = false := block_free hz52 6; have z7 : w52.cell? ⟨w.heap.size, 7, none⟩ = some (.int .i64 0) := (block_cell hz52 _).trans rfl; have zf7 : w52.frozen? ⟨w.heap.size, 7, none⟩ = false := block_free hz52 7; have z8 : w52.cell? ⟨w.heap.size, 8, none⟩ = some (.int .i64 0) := (block_cell hz52 _).trans rfl; have zf8 : w52.frozen? ⟨w.heap.size, 8, none⟩ = false := block_free hz52 8; have z9 : w52.cell? ⟨w.heap.size, 9, none⟩ = some (.slice none 0 0) := (block_cell hz52 _).trans rfl; have zf9 : w52.frozen? ⟨w.heap.size, 9, none⟩ = false := block_free hz52 9; have z10 : w52.cell? ⟨w.heap.size, 10, none⟩ = some (.slice none 0 0) := (block_cell hz52 _).trans rfl; have zf10 : w52.frozen? ⟨w.heap.size, 10, none⟩ = false := block_free hz52 10; clear hz52)))
          all_goals
            have hKQ : Kept (· = p) W43 w52 := ⟨hKP.out.os, hKP.out.tape, hKP.out.output, hKP.out.size, hKP.out.block⟩
            have hWA : Below w.heap.size w w52 := bnext hZ.out (kept_below hW43.out hKQ (by rintro _ rfl; omega))
            obtain ⟨WZ10, hch_, hzA10_, hKc⟩ := msg_stored ((hKP.out.block _ hzlt.out hzne.out).trans hzD.out) (.int .i64 kind) (.int .i64 from_) (.int .i64 to_) (.int .i64 gg) (.int .i64 node) (.int .i64 try_) (.int .i64 low) (.int .i64 code) (.int .i64 ticket) (.slice Atv told.length ctv) (.slice A42 ops.length c42)
            have hCH := Lib.hid hch_
            have hzA10H := Lib.hid hzA10_
            clear hch_ hzA10_
            have hE := Lib.hid (kept_below hWA hKc (by rintro _ rfl; exact Nat.le_refl _))
            have hTF := Lib.hid (own_kept (own_kept hT43.out hKQ (by rintro j hj rfl; omega)) hKc (by rintro j hj rfl; omega))
            have hOF := Lib.hid (own_kept (own_kept hO43.out hKQ (by rintro j hj rfl; omega)) hKc (by rintro j hj rfl; omega))
            have hzA := (hKP.out.block _ hzlt.out hzne.out).trans hzD.out
            clear hKc
            clear hWA hKQ
            rw [hCH.out]
            have hzA10 := hzA10H.out
            obtain ⟨c0, c1, c2, c3, c4, c5, c6, c7, c8, c9, c10⟩ := msg_cells hzA10
            clear hzA hzA10
            go_wp2_with fail
            refine bodyPost_ret (v := .tuple #[.agg (msgA ⟨kind, from_, to_, gg, node, try_, low, code, ticket, told, ops⟩ Atv ctv A42 c42), .iface T53 (.pointer (some ⟨b53, 0, none⟩))]) ?_ rfl ⟨⟨kind, from_, to_, gg, node, try_, low, code, ticket, told, ops⟩, Atv, ctv, A42, c42, .iface T53 (.pointer (some ⟨b53, 0, none⟩)), rfl, ⟨RowAt.of_own hTF.out rfl, RowAt.of_own hOF.out rfl, by show told.length ≤ _; omega, by show ops.length ≤ _; omega, fun o ho => Nat.le_trans (hops.out o ho).2 (by decide), htok.out, fun o ho => (hops.out o ho).1, hNUM.out⟩, ⟨fun ad ha => ?_, fun ad hb => ?_⟩, .inr ⟨T53, b53, rfl⟩, by show told.length ≤ 8; omega, by show ops.length ≤ 64; omega, hE.out⟩
            · simp [results, Tryz.results43, go_sem, msgA, *]
            · have := own_ge hTF.out ad.block (by rw [ha]; rfl)
              omega
            · have := own_ge hOF.out ad.block (by rw [hb]; rfl)
              omega
        · have hEND : Hid (NotEnd W43.drew p) := Lib.hid (hend.later (Below.refl _ _).drew)
          clear hend
          go_wp2_with fail
          go_region_held3 (fun w' => w'.cell? ⟨q, 0, none⟩ = some (.int .i64 kind) ∧ w'.cell? ⟨q, 1, none⟩ = some (.int .i64 from_) ∧ w'.cell? ⟨q, 2, none⟩ = some (.int .i64 to_) ∧ w'.cell? ⟨q, 3, none⟩ = some (.int .i64 gg) ∧ w'.cell? ⟨q, 4, none⟩ = some (.int .i64 node) ∧ w'.cell? ⟨q, 5, none⟩ = some (.int .i64 try_) ∧ w'.cell? ⟨q, 6, none⟩ = some (.int .i64 low) ∧ w'.cell? ⟨q, 7, none⟩ = some (.int .i64 code) ∧ w'.cell? ⟨q, 8, none⟩ = some (.int .i64 ticket) ∧ w'.cell? ⟨q, 9, none⟩ = some (.slice Atv told.length ctv) ∧ w'.cell? ⟨q, 10, none⟩ = some (.slice A42 ops.length c42))
            (first | (go_split_ands; with_reducible (refine ⟨?_, ?_, ?_, ?_, ?_, ?_, ?_, ?_, ?_, ?_, ?_⟩ <;> ((repeat (refine cell_set_far hr0q.out ?_)) <;> assumption))) | (go_split_ands; with_reducible exact ⟨cell_keptP hK50.out hqp9.out (by assumption), cell_keptP hK50.out hqp9.out (by assumption), cell_keptP hK50.out hqp9.out (by assumption), cell_keptP hK50.out hqp9.out (by assumption), cell_keptP hK50.out hqp9.out (by assumption), cell_keptP hK50.out hqp9.out (by assumption), cell_keptP hK50.out hqp9.out (by assumption), cell_keptP hK50.out hqp9.out (by assumption), cell_keptP hK50.out hqp9.out (by assumption), cell_keptP hK50.out hqp9.out (by assumption), cell_keptP hK50.out hqp9.out (by assumption)⟩) | (go_split_ands; with_reducible exact ⟨cell_below hB53.out (by assumption), cell_below hB53.out (by assumption), cell_below hB53.out (by assumption), cell_below hB53.out (by assumption), cell_below hB53.out (by assumption), cell_below hB53.out (by assumption), cell_below hB53.out (by assumption), cell_below hB53.out (by assumption), cell_below hB53.out (by assumption), cell_below hB53.out (by assumption), cell_below hB53.out (by assumption)⟩) | (go_split_ands; with_reducible exact ⟨cell_below hB51.out (by assumption), cell_below hB51.out (by assumption), cell_below hB51.out (by assumption), cell_below hB51.out (by assumption), cell_below hB51.out (by assumption), cell_below hB51.out (by assumption), cell_below hB51.out (by assumption), cell_below hB51.out (by assumption), cell_below hB51.out (by assumption), cell_below hB51.out (by assumption), cell_below hB51.out (by assumption)⟩) | (go_split_ands; with_reducible exact ⟨cell_below hB52.out (by assumption), cell_below hB52.out (by assumption), cell_below hB52.out (by assumption), cell_below hB52.out (by assumption), cell_below hB52.out (by assumption), cell_below hB52.out (by assumption), cell_below hB52.out (by assumption), cell_below hB52.out (by assumption), cell_below hB52.out (by assumption), cell_below hB52.out (by assumption), cell_below hB52.out (by assumption)⟩) | (go_split_ands; with_reducible exact ⟨cell_below (below_alloc (Below.refl _ _) _) (by assumption), cell_below (below_alloc (Below.refl _ _) _) (by assumption), cell_below (below_alloc (Below.refl _ _) _) (by assumption), cell_below (below_alloc (Below.refl _ _) _) (by assumption), cell_below (below_alloc (Below.refl _ _) _) (by assumption), cell_below (below_alloc (Below.refl _ _) _) (by assumption), cell_below (below_alloc (Below.refl _ _) _) (by assumption), cell_below (below_alloc (Below.refl _ _) _) (by assumption), cell_below (below_alloc (Below.refl _ _) _) (by assumption), cell_below (below_alloc (Below.refl _ _) _) (by assumption), cell_below (below_alloc (Below.refl _ _) _) (by assumption)⟩) | go_keep)
            ((first
              | (go_at_call 74; refine (End_b p _ (by first | exact hEND.out | exact hEND.out.later hB53.out) (by first | exact hG43.out | exact hG43.out.below hB53.out)).mono ?_; rintro e w50 ⟨x50, rfl, hx50_, hI50_, hK50_⟩; have hx50 := Lib.hid hx50_; have hK50 := Lib.hid hK50_; clear hI50_ hK50_ hx50_)
              | (go_at_call 37; (with_reducible refine (new_err x42 hx42.out _).mono ?_); rintro e w53 ⟨T53, b53, rfl, hE53_, hB53_⟩; have hB53 := Lib.hid hB53_; clear hE53_ hB53_)
              | (go_at_call 37; (with_reducible refine (new_err x50 hx50.out _).mono ?_); rintro e w51 ⟨T51, b51, rfl, hE51_, hB51_⟩; have hB51 := Lib.hid hB51_; clear hE51_ hB51_)
              | (go_at_call 73; refine (first_e _ b51 T51 (.iface T53 (.pointer (some ⟨b53, 0, none⟩))) _ (RowAt.made (cs := #[.iface T51 (.pointer (some ⟨b51, 0, none⟩)), .iface T53 (.pointer (some ⟨b53, 0, none⟩))]) rfl)).mono ?_; rintro e w52 ⟨rfl, hB52_⟩; have hB52 := Lib.hid hB52_; clear hB52_; have hKP : Hid (Kept (· = p) W43.drew w52) := Lib.hid (by first | exact (((hK50.out.below hB51.out).below hB53.out).alloc _).below hB52.out | exact (((hK50.out.below hB53.out).below hB51.out).alloc _).below hB52.out | exact ((((Kept.of_below (· = p) hB53.out).trans hK50.out (fun _ _ h => h)).below hB51.out).alloc _).below hB52.out); have hz52 := (hKP.out.block _ hzlt.out hzne.out).trans hzD.out; have z0 : w52.cell? ⟨w.heap.size, 0, none⟩ = some (.int .i64 0) := (block_cell hz52 _).trans rfl; have zf0 : w52.frozen? ⟨w.heap.size, 0, none⟩ = false := block_free hz52 0; have z1 : w52.cell? ⟨w.heap.size, 1, none⟩ = some (.int .i64 0) := (block_cell hz52 _).trans rfl; have zf1 : w52.frozen? ⟨w.heap.size, 1, none⟩ = false := block_free hz52 1; have z2 : w52.cell? ⟨w.heap.size, 2, none⟩ = some (.int .i64 0) := (block_cell hz52 _).trans rfl; have zf2 : w52.frozen? ⟨w.heap.size, 2, none⟩ = false := block_free hz52 2; have z3 : w52.cell? ⟨w.heap.size, 3, none⟩ = some (.int .i64 0) := (block_cell hz52 _).trans rfl; have zf3 : w52.frozen? ⟨w.heap.size, 3, none⟩ = false := block_free hz52 3; have z4 : w52.cell? ⟨w.heap.size, 4, none⟩ = some (.int .i64 0) := (block_cell hz52 _).trans rfl; have zf4 : w52.frozen? ⟨w.heap.size, 4, none⟩ = false := block_free hz52 4; have z5 : w52.cell? ⟨w.heap.size, 5, none⟩ = some (.int .i64 0) := (block_cell hz52 _).trans rfl; have zf5 : w52.frozen? ⟨w.heap.size, 5, none⟩ = false := block_free hz52 5; have z6 : w52.cell? ⟨w.heap.size, 6, none⟩ = some (.int .i64 0) := (block_cell hz52 _).trans rfl; have zf6 : w52.frozen? ⟨w.heap.size, 6, none⟩ = false := block_free hz52 6; have z7 : w52.cell? ⟨w.heap.size, 7, none⟩ = some (.int .i64 0) := (block_cell hz52 _).trans rfl; have zf7 : w52.frozen? ⟨w.heap.size, 7, none⟩ = false := block_free hz52 7; have z8 : w52.cell? ⟨w.heap.size, 8, none⟩ = some (.int .i64 0) := (block_cell hz52 _).trans rfl; have zf8 : w52.frozen? ⟨w.heap.size, 8, none⟩ = false := block_free hz52 8; have z9 : w52.cell? ⟨w.heap.size, 9, none⟩ = some (.slice none 0 0) := (block_cell hz52 _).trans rfl; have zf9 : w52.frozen? ⟨w.heap.size, 9, none⟩ = false := block_free hz52 9; have z10 : w52.cell? ⟨w.heap.size, 10, none⟩ = some (.slice none 0 0) := (block_cell hz52 _).trans rfl; have zf10 : w52.frozen? ⟨w.heap.size, 10, none⟩ = false := block_free hz52 10; clear hz52)))
          all_goals
            have hKQ : Kept (· = p) W43 w52 := ⟨hKP.out.os, hKP.out.tape, hKP.out.output, hKP.out.size, hKP.out.block⟩
            have hWA : Below w.heap.size w w52 := bnext hZ.out (kept_below hW43.out hKQ (by rintro _ rfl; omega))
            obtain ⟨WZ10, hch_, hzA10_, hKc⟩ := msg_stored ((hKP.out.block _ hzlt.out hzne.out).trans hzD.out) (.int .i64 kind) (.int .i64 from_) (.int .i64 to_) (.int .i64 gg) (.int .i64 node) (.int .i64 try_) (.int .i64 low) (.int .i64 code) (.int .i64 ticket) (.slice Atv told.length ctv) (.slice A42 ops.length c42)
            have hCH := Lib.hid hch_
            have hzA10H := Lib.hid hzA10_
            clear hch_ hzA10_
            have hE := Lib.hid (kept_below hWA hKc (by rintro _ rfl; exact Nat.le_refl _))
            have hTF := Lib.hid (own_kept (own_kept hT43.out hKQ (by rintro j hj rfl; omega)) hKc (by rintro j hj rfl; omega))
            have hOF := Lib.hid (own_kept (own_kept hO43.out hKQ (by rintro j hj rfl; omega)) hKc (by rintro j hj rfl; omega))
            have hzA := (hKP.out.block _ hzlt.out hzne.out).trans hzD.out
            clear hKc
            clear hWA hKQ
            rw [hCH.out]
            have hzA10 := hzA10H.out
            obtain ⟨c0, c1, c2, c3, c4, c5, c6, c7, c8, c9, c10⟩ := msg_cells hzA10
            clear hzA hzA10
            go_wp2_with fail
            refine bodyPost_ret (v := .tuple #[.agg (msgA ⟨kind, from_, to_, gg, node, try_, low, code, ticket, told, ops⟩ Atv ctv A42 c42), .iface T51 (.pointer (some ⟨b51, 0, none⟩))]) ?_ rfl ⟨⟨kind, from_, to_, gg, node, try_, low, code, ticket, told, ops⟩, Atv, ctv, A42, c42, .iface T51 (.pointer (some ⟨b51, 0, none⟩)), rfl, ⟨RowAt.of_own hTF.out rfl, RowAt.of_own hOF.out rfl, by show told.length ≤ _; omega, by show ops.length ≤ _; omega, fun o ho => Nat.le_trans (hops.out o ho).2 (by decide), htok.out, fun o ho => (hops.out o ho).1, hNUM.out⟩, ⟨fun ad ha => ?_, fun ad hb => ?_⟩, .inr ⟨T51, b51, rfl⟩, by show told.length ≤ 8; omega, by show ops.length ≤ 64; omega, hE.out⟩
            · simp [results, Tryz.results43, go_sem, msgA, *]
            · have := own_ge hTF.out ad.block (by rw [ha]; rfl)
              omega
            · have := own_ge hOF.out ad.block (by rw [hb]; rfl)
              omega

end Go.Proofs.YteeiacfddjhhkaaGreatDoor
