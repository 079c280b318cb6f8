/- fault.First of no errors; mess.read: where the bytes of a good message stand. -/
import Derived.Test.YteeiacfddjhhkaaGreatDoorRd3
import Derived.Test.YteeiacfddjhhkaaGreatDoorEnc
import Derived.Deep.RegionLaw
namespace Go.Proofs.YteeiacfddjhhkaaGreatDoor
open Go.RowKit
set_option maxRecDepth 100000

theorem first_ok (b : Nat) (w : World) (h : RowAt w (some ⟨b, 0, none⟩) [.nilIface, .nilIface]) :
    Calls Tryz.prog 73 #[.slice (some ⟨b, 0, none⟩) 2 2] w fun e w' => e = .returned .nilIface ∧ w' = w := by
  have x0 : w.cell? ⟨b, 0, none⟩ = some .nilIface := by obtain ⟨a, ha, hc⟩ := h 0 .nilIface rfl; cases ha; exact hc
  have x1 : w.cell? ⟨b, 1, none⟩ = some .nilIface := by obtain ⟨a, ha, hc⟩ := h 1 .nilIface rfl; cases ha; exact hc
  clear h
  go_enter Tryz.func73, Tryz.ntmps73
  go_wp2_with fail
  refine wp_loop_rounds 3 ?_
  rw [rounds_succ]
  go_wp2_with fail
  rw [rounds_succ]
  go_wp2_with fail
  rw [rounds_succ]
  go_wp2_with fail
  go_ret
  exact ⟨rfl, rfl⟩

theorem opsB_len400 {l : List POp} (h : checkO l = 0) : (opsB l).length ≤ 400 := by
  obtain ⟨h8, hk⟩ := checkO_len h
  have h1 := natB_small (n := l.length) (by omega)
  have h2 := flat_le opB 38 l h8 (fun o ho => by
    have h3 := (plainO_kind (hk o ho).1)
    have h4 := key_le (hk o ho).2
    have h5 := natB_small (n := o.kind.toNat) (by omega)
    have h9 : o.key.data.toList.length = o.key.size := by simp
    have h6 := natB_small (n := o.key.data.toList.length) (by omega)
    have h7 := numB_length o.n
    have h8 := numB_length o.lo
    simp only [opB, strB, List.length_append]
    omega)
  simp only [opsB, List.length_append]
  omega
theorem i64s_snoc (l : List Int) (k : Nat) (x : Int) (h : l[k]? = some x) : i64s (l.take (k + 1)) = i64s (l.take k) ++ [.int .i64 x] := by
  obtain ⟨hk, e⟩ := List.getElem?_eq_some_iff.1 h
  simp [i64s, List.take_succ_eq_append_getElem hk, e]
theorem cell_set_far {W : World} {r i q j : Nat} {u v : Value} (hne : r ≠ q) (h : W.cell? ⟨q, j, none⟩ = some v) : (W.setCell ⟨r, i, none⟩ u).cell? ⟨q, j, none⟩ = some v :=
  (World.cell?_of_block (Below.heap_setCell _ _ _ _ (by show q ≠ r; omega))).trans h
theorem msg_step {w W : World} {p g q : Nat} {rest : List UInt8} {arr : Array Value} {T : TypeId} (i : Nat) (u : Value) (hI : InAt W p g rest) (hQ : W.heap[q]? = some (.cells arr T (0, 0))) (hB : Below w.heap.size w W) (hpq : p < q) (hwp : w.heap.size ≤ p) :
    InAt (W.setCell ⟨q, i, none⟩ u) p g rest ∧ (W.setCell ⟨q, i, none⟩ u).heap[q]? = some (.cells (arr.setIfInBounds i u) T (0, 0)) ∧ Below w.heap.size w (W.setCell ⟨q, i, none⟩ u) := by
  have h1 : ∀ k, k ≠ q → (W.setCell ⟨q, i, none⟩ u).heap[k]? = W.heap[k]? := fun k hk => Below.heap_setCell _ _ _ _ (by simpa using hk)
  refine ⟨hI.move fun k hk => h1 k (by omega), block_setCell hQ i u, hB.os, hB.tape, hB.output, by rw [World.size_setCell]; exact hB.size, fun k hk => ?_⟩
  rw [h1 k (by omega)]
  exact hB.block k hk
/-- A message's rows are new since w. -/
def FreshM (w : World) (A B : Option Addr) : Prop := (∀ ad, A = some ad → w.heap.size ≤ ad.block) ∧ (∀ ad, B = some ad → w.heap.size ≤ ad.block)
theorem RowAt.kept {S : Nat → Prop} {w w' : World} {A : Option Addr} {cs : List Value} (h : RowAt w A cs) (hk : Kept S w w') (hs : ∀ ad, A = some ad → ¬ S ad.block) : RowAt w' A cs := by
  intro j u hu
  obtain ⟨ad, hA, hc⟩ := h j u hu
  have hlt := World.block_lt_of_cell? w _ hc
  rw [add_block] at hlt
  exact ⟨ad, hA, (World.cell?_of_block (by rw [add_block]; exact hk.block _ hlt (hs ad hA))).trans hc⟩
theorem MsgR.kept {S : Nat → Prop} {w w' : World} {m : PMsg} {A : Option Addr} {c : Nat} {B : Option Addr} {d : Nat} (h : MsgR w m A c B d) (hk : Kept S w w') (ha : ∀ ad, A = some ad → ¬ S ad.block) (hb : ∀ ad, B = some ad → ¬ S ad.block) : MsgR w' m A c B d :=
  ⟨h.told.kept hk ha, h.ops.kept hk hb, h.toldle, h.opsle, h.keys, h.toldok, h.opsok, h.nums⟩
set_option maxHeartbeats 1000000 in
theorem read_any (m : PMsg) (v : Value) (w : World) (hm : mayM m = true) (hR : RB w v (bodyM m)) (hok : i64ok m.ticket ∧ (∀ n ∈ m.told, i64ok n) ∧ (∀ o ∈ m.ops, o.ok)) :
    Calls Tryz.prog 43 #[v] w fun e w' => ∃ A c B d, e = .returned (.tuple #[.agg (msgA m A c B d), .nilIface]) ∧ MsgR w' m A c B d ∧ FreshM w A B ∧ Below w.heap.size w w' := by
  obtain ⟨A, c, hv, _⟩ := id hR
  have hF := Lib.hid (mayM_facts hm)
  have hBL := Lib.hid (bodyM_len hm)
  have hRR := Lib.hid hR
  subst hv
  clear hR hm
  obtain ⟨kind, from_, to_, gg, node, try_, low, code, ticket, told, ops⟩ := m
  obtain ⟨bs, hbs⟩ : ∃ l, bodyM ⟨kind, from_, to_, gg, node, try_, low, code, ticket, told, ops⟩ = l := ⟨_, rfl⟩
  have hsplit : bs = natI kind ++ (natI from_ ++ (natI to_ ++ (natI gg ++ (natI node ++ (natI try_ ++ (natI low ++ (natI code ++ (natI ticket ++ (natB told.length ++ ((told.map numB).flatten ++ (strB (opsB ops) ++ []))))))))))) := by
    rw [← hbs]; simp [bodyM, numsM]
  rw [hbs] at hRR hBL
  rw [hbs]
  have hS := Lib.hid hsplit
  have hne : Hid (bs ≠ []) := Lib.hid (by rw [hsplit]; simp [natI, natB])
  clear hbs hsplit
  go_enter Tryz.func43, Tryz.ntmps43
  have hZ := Lib.hid (below_alloc (Below.refl _ w) (.cells #[.int .i64 0, .int .i64 0, .int .i64 0, .int .i64 0, .int .i64 0, .int .i64 0, .int .i64 0, .int .i64 0, .int .i64 0, .slice none 0 0, .slice none 0 0] 37))
  have hZb := Lib.hid (heap_alloc_new w (.cells #[.int .i64 0, .int .i64 0, .int .i64 0, .int .i64 0, .int .i64 0, .int .i64 0, .int .i64 0, .int .i64 0, .int .i64 0, .slice none 0 0, .slice none 0 0] 37))
  go_wp2_with fail
  generalize w.alloc (.cells #[.int .i64 0, .int .i64 0, .int .i64 0, .int .i64 0, .int .i64 0, .int .i64 0, .int .i64 0, .int .i64 0, .int .i64 0, .slice none 0 0, .slice none 0 0] 37) = W0 at *
  refine (of_any _ _ _ (hRR.out.below hZ.out) hne.out (by have := hBL.out; omega)).mono ?_
  rintro e w1 ⟨p, g, rfl, hI1_, hp_, hB1_⟩
  rw [hS.out] at hI1_
  have hI0 := Lib.hid hI1_
  have hI1 := Lib.hid (hI1_.later (below_alloc (Below.refl _ w1) (.cells #[.int .i64 0, .int .i64 0, .int .i64 0, .int .i64 0, .int .i64 0, .int .i64 0, .int .i64 0, .int .i64 0, .int .i64 0, .slice none 0 0, .slice none 0 0] 37)))
  have hPlt := Lib.hid hI1_.lt
  have hp : W0.heap.size ≤ p := hp_
  have hp0 : w.heap.size < W0.heap.size := lt_of_block hZb.out
  have hB1 := Lib.hid (below_alloc hB1_ (.cells #[.int .i64 0, .int .i64 0, .int .i64 0, .int .i64 0, .int .i64 0, .int .i64 0, .int .i64 0, .int .i64 0, .int .i64 0, .slice none 0 0, .slice none 0 0] 37))
  clear hI1_ hp_ hB1_
  go_wp2_with fail
  obtain ⟨q, hq⟩ : ∃ q, w1.heap.size = q := ⟨_, rfl⟩
  have hq0 := Lib.hid (heap_alloc_new w1 (.cells #[.int .i64 0, .int .i64 0, .int .i64 0, .int .i64 0, .int .i64 0, .int .i64 0, .int .i64 0, .int .i64 0, .int .i64 0, .slice none 0 0, .slice none 0 0] 37))
  have hpq : p < q := by rw [← hq]; exact hI0.out.lt
  generalize w1.alloc (.cells #[.int .i64 0, .int .i64 0, .int .i64 0, .int .i64 0, .int .i64 0, .int .i64 0, .int .i64 0, .int .i64 0, .int .i64 0, .slice none 0 0, .slice none 0 0] 37) = W at *
  rw [hq] at hq0
  rw [hq]
  refine (small_rd kind.toNat _ p g _ hI1.out (by have := hF.out.kind; simp only at this; omega)).mono ?_
  rintro e w2 ⟨rfl, hI2_, hK2_⟩
  rw [Int.toNat_of_nonneg (by have := hF.out.kind; simp only at this; omega)]
  have hI2 := Lib.hid hI2_
  have hQ2 := Lib.hid ((hK2_.block q (lt_of_block hq0.out) (by omega)).trans hq0.out)
  have hB2 := Lib.hid (kept_below hB1.out hK2_ (by rintro _ rfl; omega))
  clear hI2_ hK2_ hI1 hq0 hB1
  go_wp2_with fail
  refine (small_rd from_.toNat _ p g _ hI2.out (by have := hF.out.from_; simp only at this; omega)).mono ?_
  rintro e w3 ⟨rfl, hI3_, hK3_⟩
  rw [Int.toNat_of_nonneg (by have := hF.out.from_; simp only at this; omega)]
  have hI3 := Lib.hid hI3_
  have hQ3 := Lib.hid ((hK3_.block q (lt_of_block hQ2.out) (by omega)).trans hQ2.out)
  have hB3 := Lib.hid (kept_below hB2.out hK3_ (by rintro _ rfl; omega))
  clear hI3_ hK3_ hI2 hQ2 hB2
  go_wp2_with fail
  refine (small_rd to_.toNat _ p g _ hI3.out (by have := hF.out.to_; simp only at this; omega)).mono ?_
  rintro e w4 ⟨rfl, hI4_, hK4_⟩
  rw [Int.toNat_of_nonneg (by have := hF.out.to_; simp only at this; omega)]
  have hI4 := Lib.hid hI4_
  have hQ4 := Lib.hid ((hK4_.block q (lt_of_block hQ3.out) (by omega)).trans hQ3.out)
  have hB4 := Lib.hid (kept_below hB3.out hK4_ (by rintro _ rfl; omega))
  clear hI4_ hK4_ hI3 hQ3 hB3
  have f0 : w4.frozen? ⟨q, 0, none⟩ = false := block_free hQ4.out 0
  have x0 : w4.cell? ⟨q, 0, none⟩ = some (.int .i64 0) := by rw [block_cell hQ4.out]; rfl
  have f1 : w4.frozen? ⟨q, 1, none⟩ = false := block_free hQ4.out 1
  have x1 : w4.cell? ⟨q, 1, none⟩ = some (.int .i64 0) := by rw [block_cell hQ4.out]; rfl
  have f2 : w4.frozen? ⟨q, 2, none⟩ = false := block_free hQ4.out 2
  have x2 : w4.cell? ⟨q, 2, none⟩ = some (.int .i64 0) := by rw [block_cell hQ4.out]; rfl
  go_wp2_with fail
  have s0 := Lib.hid (msg_step (w := W0) 0 (.int .i64 kind) hI4.out hQ4.out hB4.out hpq hp)
  have s1 := Lib.hid (msg_step (w := W0) 1 (.int .i64 from_) s0.out.1 s0.out.2.1 s0.out.2.2 hpq hp)
  have s2 := Lib.hid (msg_step (w := W0) 2 (.int .i64 to_) s1.out.1 s1.out.2.1 s1.out.2.2 hpq hp)
  generalize (((w4.setCell ⟨q, 0, none⟩ (.int .i64 kind)).setCell ⟨q, 1, none⟩ (.int .i64 from_)).setCell ⟨q, 2, none⟩ (.int .i64 to_)) = W5 at *
  have hI5 := Lib.hid s2.out.1
  have hB5 := Lib.hid s2.out.2.2
  have hQ5 : Hid (W5.heap[q]? = some (.cells #[.int .i64 kind, .int .i64 from_, .int .i64 to_, .int .i64 0, .int .i64 0, .int .i64 0, .int .i64 0, .int .i64 0, .int .i64 0, .slice none 0 0, .slice none 0 0] 37 (0, 0))) := Lib.hid s2.out.2.1
  clear s2 f2 x2 s1 f1 x1 s0 f0 x0 hI4 hB4 hQ4
  refine (small_rd gg.toNat _ p g _ hI5.out (by have := hF.out.g; simp only at this; omega)).mono ?_
  rintro e w6 ⟨rfl, hI6_, hK6_⟩
  rw [Int.toNat_of_nonneg (by have := hF.out.g; simp only at this; omega)]
  have hI6 := Lib.hid hI6_
  have hQ6 := Lib.hid ((hK6_.block q (lt_of_block hQ5.out) (by omega)).trans hQ5.out)
  have hB6 := Lib.hid (kept_below hB5.out hK6_ (by rintro _ rfl; omega))
  clear hI6_ hK6_ hI5 hQ5 hB5
  go_wp2_with fail
  refine (small_rd node.toNat _ p g _ hI6.out (by have := hF.out.node; simp only at this; omega)).mono ?_
  rintro e w7 ⟨rfl, hI7_, hK7_⟩
  rw [Int.toNat_of_nonneg (by have := hF.out.node; simp only at this; omega)]
  have hI7 := Lib.hid hI7_
  have hQ7 := Lib.hid ((hK7_.block q (lt_of_block hQ6.out) (by omega)).trans hQ6.out)
  have hB7 := Lib.hid (kept_below hB6.out hK7_ (by rintro _ rfl; omega))
  clear hI7_ hK7_ hI6 hQ6 hB6
  go_wp2_with fail
  refine (small_rd try_.toNat _ p g _ hI7.out (by have := hF.out.try_; simp only at this; omega)).mono ?_
  rintro e w8 ⟨rfl, hI8_, hK8_⟩
  rw [Int.toNat_of_nonneg (by have := hF.out.try_; simp only at this; omega)]
  have hI8 := Lib.hid hI8_
  have hQ8 := Lib.hid ((hK8_.block q (lt_of_block hQ7.out) (by omega)).trans hQ7.out)
  have hB8 := Lib.hid (kept_below hB7.out hK8_ (by rintro _ rfl; omega))
  clear hI8_ hK8_ hI7 hQ7 hB7
  go_wp2_with fail
  refine (small_rd low.toNat _ p g _ hI8.out (by have := hF.out.low; simp only at this; omega)).mono ?_
  rintro e w9 ⟨rfl, hI9_, hK9_⟩
  rw [Int.toNat_of_nonneg (by have := hF.out.low; simp only at this; omega)]
  have hI9 := Lib.hid hI9_
  have hQ9 := Lib.hid ((hK9_.block q (lt_of_block hQ8.out) (by omega)).trans hQ8.out)
  have hB9 := Lib.hid (kept_below hB8.out hK9_ (by rintro _ rfl; omega))
  clear hI9_ hK9_ hI8 hQ8 hB8
  go_wp2_with fail
  refine (small_rd code.toNat _ p g _ hI9.out (by have := hF.out.code; simp only at this; omega)).mono ?_
  rintro e w10 ⟨rfl, hI10_, hK10_⟩
  rw [Int.toNat_of_nonneg (by have := hF.out.code; simp only at this; omega)]
  have hI10 := Lib.hid hI10_
  have hQ10 := Lib.hid ((hK10_.block q (lt_of_block hQ9.out) (by omega)).trans hQ9.out)
  have hB10 := Lib.hid (kept_below hB9.out hK10_ (by rintro _ rfl; omega))
  clear hI10_ hK10_ hI9 hQ9 hB9
  have f3 : w10.frozen? ⟨q, 3, none⟩ = false := block_free hQ10.out 3
  have x3 : w10.cell? ⟨q, 3, none⟩ = some (.int .i64 0) := by rw [block_cell hQ10.out]; rfl
  have f4 : w10.frozen? ⟨q, 4, none⟩ = false := block_free hQ10.out 4
  have x4 : w10.cell? ⟨q, 4, none⟩ = some (.int .i64 0) := by rw [block_cell hQ10.out]; rfl
  have f5 : w10.frozen? ⟨q, 5, none⟩ = false := block_free hQ10.out 5
  have x5 : w10.cell? ⟨q, 5, none⟩ = some (.int .i64 0) := by rw [block_cell hQ10.out]; rfl
  have f6 : w10.frozen? ⟨q, 6, none⟩ = false := block_free hQ10.out 6
  have x6 : w10.cell? ⟨q, 6, none⟩ = some (.int .i64 0) := by rw [block_cell hQ10.out]; rfl
  have f7 : w10.frozen? ⟨q, 7, none⟩ = false := block_free hQ10.out 7
  have x7 : w10.cell? ⟨q, 7, none⟩ = some (.int .i64 0) := by rw [block_cell hQ10.out]; rfl
  go_wp2_with fail
  have s3 := Lib.hid (msg_step (w := W0) 3 (.int .i64 gg) hI10.out hQ10.out hB10.out hpq hp)
  have s4 := Lib.hid (msg_step (w := W0) 4 (.int .i64 node) s3.out.1 s3.out.2.1 s3.out.2.2 hpq hp)
  have s5 := Lib.hid (msg_step (w := W0) 5 (.int .i64 try_) s4.out.1 s4.out.2.1 s4.out.2.2 hpq hp)
  have s6 := Lib.hid (msg_step (w := W0) 6 (.int .i64 low) s5.out.1 s5.out.2.1 s5.out.2.2 hpq hp)
  have s7 := Lib.hid (msg_step (w := W0) 7 (.int .i64 code) s6.out.1 s6.out.2.1 s6.out.2.2 hpq hp)
  generalize (((((w10.setCell ⟨q, 3, none⟩ (.int .i64 gg)).setCell ⟨q, 4, none⟩ (.int .i64 node)).setCell ⟨q, 5, none⟩ (.int .i64 try_)).setCell ⟨q, 6, none⟩ (.int .i64 low)).setCell ⟨q, 7, none⟩ (.int .i64 code)) = W11 at *
  have hI11 := Lib.hid s7.out.1
  have hB11 := Lib.hid s7.out.2.2
  have hQ11 : Hid (W11.heap[q]? = some (.cells #[.int .i64 kind, .int .i64 from_, .int .i64 to_, .int .i64 gg, .int .i64 node, .int .i64 try_, .int .i64 low, .int .i64 code, .int .i64 0, .slice none 0 0, .slice none 0 0] 37 (0, 0))) := Lib.hid s7.out.2.1
  clear s7 f7 x7 s6 f6 x6 s5 f5 x5 s4 f4 x4 s3 f3 x3 hI10 hB10 hQ10
  have ftk := hF.out.ticket
  simp only at ftk
  have ftk2 := hok.1.2
  have fmin : ticket ≤ 9223372036854775807 := by omega
  refine (Nat_rd ticket.toNat _ p g _ hI11.out (by omega)).mono ?_
  rintro e w20 ⟨rfl, hI20_, hK20_⟩
  rw [Int.toNat_of_nonneg ftk]
  have hI20 := Lib.hid hI20_
  have hQ20 := Lib.hid ((hK20_.block q (lt_of_block hQ11.out) (by omega)).trans hQ11.out)
  have hB20 := Lib.hid (kept_below hB11.out hK20_ (by rintro _ rfl; omega))
  clear hI20_ hK20_ hI11 hQ11 hB11
  have f8 : w20.frozen? ⟨q, 8, none⟩ = false := block_free hQ20.out 8
  have x8 : w20.cell? ⟨q, 8, none⟩ = some (.int .i64 0) := by rw [block_cell hQ20.out]; rfl
  go_wp2_with fail
  have s8 := Lib.hid (msg_step (w := W0) 8 (.int .i64 ticket) hI20.out hQ20.out hB20.out hpq hp)
  generalize (w20.setCell ⟨q, 8, none⟩ (.int .i64 ticket)) = W22 at *
  have hI22 := Lib.hid s8.out.1
  have hB22 := Lib.hid s8.out.2.2
  have hQ22 : Hid (W22.heap[q]? = some (.cells #[.int .i64 kind, .int .i64 from_, .int .i64 to_, .int .i64 gg, .int .i64 node, .int .i64 try_, .int .i64 low, .int .i64 code, .int .i64 ticket, .slice none 0 0, .slice none 0 0] 37 (0, 0))) := Lib.hid s8.out.2.1
  clear s8 f8 x8 hI20 hB20 hQ20
  have f8 := hF.out.told
  simp only at f8
  refine (Nat_rd told.length _ p g _ hI22.out (by omega)).mono ?_
  rintro e w30 ⟨rfl, hI30_, hK30_⟩
  have hI30 := Lib.hid hI30_
  have hQ30 := Lib.hid ((hK30_.block q (lt_of_block hQ22.out) (by omega)).trans hQ22.out)
  have hB30 := Lib.hid (kept_below hB22.out hK30_ (by rintro _ rfl; omega))
  clear hI30_ hK30_ hI22 hQ22 hB22
  go_wp2_with fail
  go_loopw [53] (fun i wr => ∃ k : Nat, k ≤ told.length ∧ i = .int .u64 k ∧ ∃ tv : Value, wr.heap[q]? = some (.cells #[.int .i64 kind, .int .i64 from_, .int .i64 to_, .int .i64 gg, .int .i64 node, .int .i64 try_, .int .i64 low, .int .i64 code, .int .i64 ticket, tv, .slice none 0 0] 37 (0, 0)) ∧ wr.ownsRow (q + 1) 2 1 tv k (i64s (told.take k)) ∧ InAt wr p g (((told.drop k).map numB).flatten ++ (strB (opsB ops) ++ [])) ∧ Below W0.heap.size W0 wr) (fun i _ => told.length - (intOf i).toNat)
  case atStart => exact ⟨0, by omega, rfl, _, hQ30.out, own_nil _ _ _ _, hI30.out, hB30.out⟩
  case round =>
    obtain ⟨k, hk, rfl, tv, hQ_, hO_, hI_, hB_⟩ := hrel
    obtain ⟨Atv, ctv, rfl⟩ := own_slice hO_
    have hQ := Lib.hid hQ_
    have hO := Lib.hid hO_
    have hB := Lib.hid hB_
    by_cases hlt : k < told.length
    · obtain ⟨x, hx⟩ : ∃ x, told[k]? = some x := ⟨_, List.getElem?_eq_getElem hlt⟩
      have hxok := hok.2.1 x (List.mem_of_getElem? hx)
      have hX := Lib.hid hx
      have hkd : told.drop k = x :: told.drop (k + 1) := by
        rw [List.drop_eq_getElem_cons hlt]
        congr 1
        exact Option.some.inj ((List.getElem?_eq_getElem hlt).symm.trans hx)
      have hI := Lib.hid (show InAt wr p g (numB x ++ (((told.drop (k + 1)).map numB).flatten ++ (strB (opsB ops) ++ []))) by
        rw [hkd, List.map_cons, List.flatten_cons, List.append_assoc] at hI_
        exact hI_)
      have hc : wr.cell? ⟨q, 9, none⟩ = some (.slice Atv k ctv) := by rw [block_cell hQ_]; rfl
      have hf : wr.frozen? ⟨q, 9, none⟩ = false := block_free hQ_ 9
      have hql := lt_of_block hQ_
      have hID : Hid (InAt wr.drew p g _) := Lib.hid hI.out
      have hOD : Hid (wr.drew.ownsRow (q + 1) 2 1 (.slice Atv k ctv) k (i64s (told.take k))) := Lib.hid hO_
      have hqd : Hid (q < wr.drew.heap.size) := Lib.hid hql
      have hqp : Hid (q ≠ p) := Lib.hid (by omega)
      have hne : Hid (some q ≠ (Value.slice Atv k ctv).ownBlock) := Lib.hid (fun h => by have := own_ge hO_ _ h.symm; omega)
      clear hI_ hO_ hB_ hQ_ hx hkd
      go_wp2_with fail
      go_region_law (first
          | (go_simp; go_at_call 70; refine (Num_rd x hxok _ p g _ hID.out).mono ?_; rintro e w33 ⟨rfl, hI33_, hK33_⟩; have hI33 := Lib.hid hI33_; have hK33 := Lib.hid hK33_; have hc33 : w33.cell? ⟨q, 9, none⟩ = some (.slice Atv k ctv) := (World.cell?_of_block (hK33_.block q hqd.out hqp.out)).trans hc; have hf33 : w33.frozen? ⟨q, 9, none⟩ = false := (World.frozen?_of_block (hK33_.block q hqd.out hqp.out)).trans hf; have hcA : (w33.alloc (.cells #[.int .i64 x] 2)).cell? ⟨q, 9, none⟩ = some (.slice Atv k ctv) := cell_below (below_alloc (Below.refl _ _) _) hc33; clear hI33_ hK33_)
          | (refine step_of_wp rfl ?_; refine wp_append_row _ _ 28 rfl (q + 1) 2 _ 1 8 Tryz.underlying28 Tryz.infoI64 rfl (by decide) (by decide) (.slice Atv k ctv) k (i64s (told.take k)) rfl (own_below (own_kept hOD.out hK33.out (by rintro j hj rfl; omega)) (below_alloc (Below.refl _ _) _)) (some ⟨w33.heap.size, 0, none⟩) 1 1 [.int .i64 x] rfl (fun h => by cases h) (Nat.le_refl _) rfl (RowAt.made rfl) (by simp [Value.oneCell']) (by omega) (by have := hK33.out.size; rw [World.size_alloc]; show q + 1 ≤ _; have : wr.heap.size ≤ w33.heap.size := this; omega) ?_; intro v9 w9 hO9_ hG9_ _; obtain ⟨A9, c9, rfl⟩ := own_slice hO9_; have hO9 := Lib.hid hO9_; have hG9 := Lib.hid hG9_; have hb9 := hG9_.block q (by rw [World.size_alloc]; have := hK33.out.size; have := hqd.out; omega) hne.out; have hc9 : w9.cell? ⟨q, 9, none⟩ = some (.slice Atv k ctv) := (World.cell?_of_block hb9).trans hcA; have hf9 : w9.frozen? ⟨q, 9, none⟩ = false := (World.frozen?_of_block hb9).trans ((World.frozen?_of_block ((below_alloc (Below.refl _ _) _).block q (by have := hK33.out.size; have := hqd.out; omega))).trans hf33); clear hO9_ hG9_ hb9))
      all_goals
        have hK33' : Kept (· = p) wr w33 := ⟨hK33.out.os, hK33.out.tape, hK33.out.output, hK33.out.size, hK33.out.block⟩
        have hAL := below_alloc (Below.refl _ w33) (.cells #[.int .i64 x] 2)
        have hBA : Below W0.heap.size W0 (w33.alloc (.cells #[.int .i64 x] 2)) := (kept_below hB.out hK33' (by rintro _ rfl; omega)).trans (hAL.mono (Nat.le_trans hB.out.size hK33'.size))
        have hB9 : Below W0.heap.size W0 w9 := hBA.grown hG9.out hBA.size (fun j hj => by have := own_ge hO.out j hj; omega)
        have hqA : q < (w33.alloc (.cells #[.int .i64 x] 2)).heap.size := by rw [World.size_alloc]; have := hK33'.size; omega
        have hI9 := (hI33.out.later hAL).move fun j hj => hG9.out.block j (by omega) (fun h => by have := own_ge hO.out j h.symm; omega)
        have hQ9 := (hG9.out.block q hqA hne.out).trans ((hAL.block q (by have := hK33'.size; omega)).trans ((hK33'.block q hql hqp.out).trans hQ.out))
        have s9 := Lib.hid (msg_step (w := W0) 9 (.slice A9 (k + 1) c9) hI9 hQ9 hB9 hpq hp)
        have o9 := Lib.hid (own_move (w1 := w9.setCell ⟨q, 9, none⟩ (.slice A9 (k + 1) c9)) hO9.out fun j hj => Below.heap_setCell _ _ _ _ (by have := own_ge hO9.out j hj; show j ≠ q; omega))
        clear hK33' hAL hBA hB9 hqA hI9 hQ9 hcA hc33 hf33 hc9 hf9 hK33 hI33 hG9 hc hf
        go_wp2_with fail
        go_roundw
        case rel => exact ⟨k + 1, by omega, by go_num, _, s9.out.2.1, by rw [i64s_snoc _ _ _ hX.out]; exact o9.out, s9.out.1, s9.out.2.2⟩
        case measure => simp [intOf]; omega
    · have hk9 : k = told.length := by omega
      subst hk9
      have hI9 := hI_
      rw [List.drop_length] at hI9
      have hO9 := hO_
      rw [List.take_length] at hO9
      have hI := Lib.hid (show InAt wr p g (strB (opsB ops) ++ []) from hI9)
      have hO := Lib.hid hO9
      have h400 := opsB_len400 hF.out.ops
      clear hI9 hO9 hI_ hO_ hB_ hQ_
      obtain ⟨ob, hob⟩ : ∃ l, opsB ops = l := ⟨_, rfl⟩
      rw [hob] at hI h400
      have hOB := Lib.hid hob
      clear hob
      go_wp2_with fail
      refine (Str_rd ob [] 400 p g _ hI.out (by omega) h400).mono ?_
      rintro e w40 ⟨rfl, hI40_, hK40_⟩
      have hI40 := Lib.hid hI40_
      have hQ40 := Lib.hid ((hK40_.block q (lt_of_block hQ.out) (by omega)).trans hQ.out)
      have hB40 := Lib.hid (kept_below hB.out hK40_ (by rintro _ rfl; omega))
      have hO40 := Lib.hid (own_kept hO.out hK40_ (by rintro j hj rfl; omega))
      clear hI40_ hK40_ hI hQ hB hO
      go_wp2_with (refine list_of_wp rfl ?_; refine wp_conv_SB (.tmp 65) ⟨ob.toArray⟩ (by show ob.length ≤ _; omega) rfl rfl ?_; intro A41 c41 w41 hR41_ hB41_)
      have hR41 := Lib.hid (show RB w41 (.slice A41 ob.length c41) (opsB ops) by rw [hOB.out]; exact hR41_)
      have hB41 := Lib.hid hB41_
      have hck := checkO_len hF.out.ops
      have hops : Hid (∀ o ∈ ops, o.ok ∧ goodO o = true ∧ o.key.size ≤ 16) := Lib.hid (fun o ho => ⟨hok.2.2 o ho, by unfold goodO; rw [(hck.2 o ho).1, (hck.2 o ho).2]; rfl, key_le (hck.2 o ho).2⟩)
      have hl8 : ops.length ≤ 64 := Nat.le_trans hck.1 (by decide)
      have hbl : (opsB ops).length ≤ 100000 := by rw [hOB.out]; omega
      have hBLX := Lib.hid hbl
      clear hR41_ hB41_ hck hbl
      go_wp2_with fail
      refine (opsDec_rd ops _ _ hl8 hops.out hR41.out hBLX.out).mono ?_
      rintro e w42 ⟨A42, c42, rfl, hO42_, hB42_⟩
      have hO42 := Lib.hid hO42_
      have hB42 := Lib.hid (bnext hB41.out hB42_)
      have hQ42 := Lib.hid (block_below hB42.out hQ40.out)
      have hI42 := Lib.hid (hI40.out.later hB42.out)
      have hW42 := Lib.hid (hB40.out.trans (hB42.out.mono hB40.out.size))
      have hT42 := Lib.hid (own_below hO40.out hB42.out)
      have f10 : w42.frozen? ⟨q, 10, none⟩ = false := block_free hQ42.out 10
      have x10 : w42.cell? ⟨q, 10, none⟩ = some (.slice none 0 0) := by rw [block_cell hQ42.out]; rfl
      have hqX : q < w41.heap.size := lt_of_block (block_below hB41.out hQ40.out)
      clear hO42_ hB42_ hR41 hB41 hO40 hB42 hQ40 hI40 hB40
      go_wp2_with fail
      have s10 := Lib.hid (msg_step (w := W0) 10 (.slice A42 ops.length c42) hI42.out hQ42.out hW42.out hpq hp)
      have hT43 := Lib.hid (own_move (w1 := w42.setCell ⟨q, 10, none⟩ (.slice A42 ops.length c42)) hT42.out fun j hj => Below.heap_setCell _ _ _ _ (by have := own_ge hT42.out j hj; show j ≠ q; omega))
      have hO43 := Lib.hid (own_move (w1 := w42.setCell ⟨q, 10, none⟩ (.slice A42 ops.length c42)) hO42.out fun j hj => Below.heap_setCell _ _ _ _ (by have := own_ge hO42.out j hj; show j ≠ q; omega))
      generalize w42.setCell ⟨q, 10, none⟩ (.slice A42 ops.length c42) = W43 at *
      have hQ43 : W43.heap[q]? = some (.cells #[.int .i64 kind, .int .i64 from_, .int .i64 to_, .int .i64 gg, .int .i64 node, .int .i64 try_, .int .i64 low, .int .i64 code, .int .i64 ticket, .slice Atv told.length ctv, .slice A42 ops.length c42] 37 (0, 0)) := s10.out.2.1
      have hID : Hid (InAt W43.drew p g []) := Lib.hid s10.out.1
      have hr0q : Hid (w.heap.size ≠ q) := Lib.hid (by omega)
      have hzD : Hid (W43.drew.heap[w.heap.size]? = _) := Lib.hid ((s10.out.2.2.block _ hp0).trans hZb.out)
      obtain ⟨y0, y1, y2, y3, y4, y5, y6, y7, y8, y9, y10⟩ := msg_cells hQ43
      clear hI42 hQ42 hW42 hT42 hO42 f10 x10 hQ43
      go_wp2_with fail
      go_region_held3 (fun w' => w'.cell? ⟨q, 0, none⟩ = some (.int .i64 kind) ∧ w'.cell? ⟨q, 1, none⟩ = some (.int .i64 from_) ∧ w'.cell? ⟨q, 2, none⟩ = some (.int .i64 to_) ∧ w'.cell? ⟨q, 3, none⟩ = some (.int .i64 gg) ∧ w'.cell? ⟨q, 4, none⟩ = some (.int .i64 node) ∧ w'.cell? ⟨q, 5, none⟩ = some (.int .i64 try_) ∧ w'.cell? ⟨q, 6, none⟩ = some (.int .i64 low) ∧ w'.cell? ⟨q, 7, none⟩ = some (.int .i64 code) ∧ w'.cell? ⟨q, 8, none⟩ = some (.int .i64 ticket) ∧ w'.cell? ⟨q, 9, none⟩ = some (.slice Atv told.length ctv) ∧ w'.cell? ⟨q, 10, none⟩ = some (.slice A42 ops.length c42))
        (first | (go_split_ands; with_reducible exact ⟨cell_below hB50.out (by assumption), cell_below hB50.out (by assumption), cell_below hB50.out (by assumption), cell_below hB50.out (by assumption), cell_below hB50.out (by assumption), cell_below hB50.out (by assumption), cell_below hB50.out (by assumption), cell_below hB50.out (by assumption), cell_below hB50.out (by assumption), cell_below hB50.out (by assumption), cell_below hB50.out (by assumption)⟩) | (go_split_ands; with_reducible exact ⟨cell_below (below_alloc (Below.refl _ _) _) (by assumption), cell_below (below_alloc (Below.refl _ _) _) (by assumption), cell_below (below_alloc (Below.refl _ _) _) (by assumption), cell_below (below_alloc (Below.refl _ _) _) (by assumption), cell_below (below_alloc (Below.refl _ _) _) (by assumption), cell_below (below_alloc (Below.refl _ _) _) (by assumption), cell_below (below_alloc (Below.refl _ _) _) (by assumption), cell_below (below_alloc (Below.refl _ _) _) (by assumption), cell_below (below_alloc (Below.refl _ _) _) (by assumption), cell_below (below_alloc (Below.refl _ _) _) (by assumption), cell_below (below_alloc (Below.refl _ _) _) (by assumption)⟩) | (go_split_ands; with_reducible (refine ⟨?_, ?_, ?_, ?_, ?_, ?_, ?_, ?_, ?_, ?_, ?_⟩ <;> ((repeat (refine cell_set_far hr0q.out ?_)) <;> assumption))) | go_keep)
        ((first
          | (go_at_call 74; refine (End_rd p g _ hID.out).mono ?_; rintro e w50 ⟨rfl, hB50_⟩; have hB50 := Lib.hid hB50_; clear hB50_)
          | (go_at_call 37; refine (new_ok _).mono ?_; rintro e w51 ⟨rfl, rfl⟩)
          | (go_at_call 73; refine (first_ok _ _ (RowAt.made rfl)).mono ?_; rintro e w52 ⟨rfl, rfl⟩; have hz52 := block_below (bnext hB50.out (below_alloc (Below.refl _ w50) (.cells #[.nilIface, .nilIface] 79))) hzD.out; have z0 : (w50.alloc (.cells #[.nilIface, .nilIface] 79)).cell? ⟨w.heap.size, 0, none⟩ = some (.int .i64 0) := (block_cell hz52 _).trans rfl; have z1 : (w50.alloc (.cells #[.nilIface, .nilIface] 79)).cell? ⟨w.heap.size, 1, none⟩ = some (.int .i64 0) := (block_cell hz52 _).trans rfl; have z2 : (w50.alloc (.cells #[.nilIface, .nilIface] 79)).cell? ⟨w.heap.size, 2, none⟩ = some (.int .i64 0) := (block_cell hz52 _).trans rfl; have z3 : (w50.alloc (.cells #[.nilIface, .nilIface] 79)).cell? ⟨w.heap.size, 3, none⟩ = some (.int .i64 0) := (block_cell hz52 _).trans rfl; have z4 : (w50.alloc (.cells #[.nilIface, .nilIface] 79)).cell? ⟨w.heap.size, 4, none⟩ = some (.int .i64 0) := (block_cell hz52 _).trans rfl; have z5 : (w50.alloc (.cells #[.nilIface, .nilIface] 79)).cell? ⟨w.heap.size, 5, none⟩ = some (.int .i64 0) := (block_cell hz52 _).trans rfl; have z6 : (w50.alloc (.cells #[.nilIface, .nilIface] 79)).cell? ⟨w.heap.size, 6, none⟩ = some (.int .i64 0) := (block_cell hz52 _).trans rfl; have z7 : (w50.alloc (.cells #[.nilIface, .nilIface] 79)).cell? ⟨w.heap.size, 7, none⟩ = some (.int .i64 0) := (block_cell hz52 _).trans rfl; have z8 : (w50.alloc (.cells #[.nilIface, .nilIface] 79)).cell? ⟨w.heap.size, 8, none⟩ = some (.int .i64 0) := (block_cell hz52 _).trans rfl; have z9 : (w50.alloc (.cells #[.nilIface, .nilIface] 79)).cell? ⟨w.heap.size, 9, none⟩ = some (.slice none 0 0) := (block_cell hz52 _).trans rfl; have z10 : (w50.alloc (.cells #[.nilIface, .nilIface] 79)).cell? ⟨w.heap.size, 10, none⟩ = some (.slice none 0 0) := (block_cell hz52 _).trans rfl; have e0 : (w50.alloc (.cells #[.nilIface, .nilIface] 79)).frozen? ⟨w.heap.size, 0, none⟩ = false := block_free hz52 0; have e1 : (w50.alloc (.cells #[.nilIface, .nilIface] 79)).frozen? ⟨w.heap.size, 1, none⟩ = false := block_free hz52 1; have e2 : (w50.alloc (.cells #[.nilIface, .nilIface] 79)).frozen? ⟨w.heap.size, 2, none⟩ = false := block_free hz52 2; have e3 : (w50.alloc (.cells #[.nilIface, .nilIface] 79)).frozen? ⟨w.heap.size, 3, none⟩ = false := block_free hz52 3; have e4 : (w50.alloc (.cells #[.nilIface, .nilIface] 79)).frozen? ⟨w.heap.size, 4, none⟩ = false := block_free hz52 4; have e5 : (w50.alloc (.cells #[.nilIface, .nilIface] 79)).frozen? ⟨w.heap.size, 5, none⟩ = false := block_free hz52 5; have e6 : (w50.alloc (.cells #[.nilIface, .nilIface] 79)).frozen? ⟨w.heap.size, 6, none⟩ = false := block_free hz52 6; have e7 : (w50.alloc (.cells #[.nilIface, .nilIface] 79)).frozen? ⟨w.heap.size, 7, none⟩ = false := block_free hz52 7; have e8 : (w50.alloc (.cells #[.nilIface, .nilIface] 79)).frozen? ⟨w.heap.size, 8, none⟩ = false := block_free hz52 8; have e9 : (w50.alloc (.cells #[.nilIface, .nilIface] 79)).frozen? ⟨w.heap.size, 9, none⟩ = false := block_free hz52 9; have e10 : (w50.alloc (.cells #[.nilIface, .nilIface] 79)).frozen? ⟨w.heap.size, 10, none⟩ = false := block_free hz52 10; clear hz52)))
      have hAL : Below W43.drew.heap.size W43.drew (w50.alloc (.cells #[.nilIface, .nilIface] 79)) := bnext hB50.out (below_alloc (Below.refl _ w50) _)
      have hAL2 : Below W43.heap.size W43 (w50.alloc (.cells #[.nilIface, .nilIface] 79)) := ⟨hAL.os, hAL.tape, hAL.output, hAL.size, hAL.block⟩
      have hKc : Kept (· = w.heap.size) (w50.alloc (.cells #[.nilIface, .nilIface] 79)) ((((((((((((w50.alloc (.cells #[.nilIface, .nilIface] 79)).setCell ⟨w.heap.size, 0, none⟩ (.int .i64 kind)).setCell ⟨w.heap.size, 1, none⟩ (.int .i64 from_)).setCell ⟨w.heap.size, 2, none⟩ (.int .i64 to_)).setCell ⟨w.heap.size, 3, none⟩ (.int .i64 gg)).setCell ⟨w.heap.size, 4, none⟩ (.int .i64 node)).setCell ⟨w.heap.size, 5, none⟩ (.int .i64 try_)).setCell ⟨w.heap.size, 6, none⟩ (.int .i64 low)).setCell ⟨w.heap.size, 7, none⟩ (.int .i64 code)).setCell ⟨w.heap.size, 8, none⟩ (.int .i64 ticket)).setCell ⟨w.heap.size, 9, none⟩ (.slice Atv told.length ctv)).setCell ⟨w.heap.size, 10, none⟩ (.slice A42 ops.length c42)) := (Kept.setCell (S := (· = w.heap.size)) (p := ⟨w.heap.size, 10, none⟩) (Kept.setCell (S := (· = w.heap.size)) (p := ⟨w.heap.size, 9, none⟩) (Kept.setCell (S := (· = w.heap.size)) (p := ⟨w.heap.size, 8, none⟩) (Kept.setCell (S := (· = w.heap.size)) (p := ⟨w.heap.size, 7, none⟩) (Kept.setCell (S := (· = w.heap.size)) (p := ⟨w.heap.size, 6, none⟩) (Kept.setCell (S := (· = w.heap.size)) (p := ⟨w.heap.size, 5, none⟩) (Kept.setCell (S := (· = w.heap.size)) (p := ⟨w.heap.size, 4, none⟩) (Kept.setCell (S := (· = w.heap.size)) (p := ⟨w.heap.size, 3, none⟩) (Kept.setCell (S := (· = w.heap.size)) (p := ⟨w.heap.size, 2, none⟩) (Kept.setCell (S := (· = w.heap.size)) (p := ⟨w.heap.size, 1, none⟩) (Kept.setCell (S := (· = w.heap.size)) (p := ⟨w.heap.size, 0, none⟩) (Kept.refl (· = w.heap.size) (w50.alloc (.cells #[.nilIface, .nilIface] 79))) (.inl rfl) (.int .i64 kind)) (.inl rfl) (.int .i64 from_)) (.inl rfl) (.int .i64 to_)) (.inl rfl) (.int .i64 gg)) (.inl rfl) (.int .i64 node)) (.inl rfl) (.int .i64 try_)) (.inl rfl) (.int .i64 low)) (.inl rfl) (.int .i64 code)) (.inl rfl) (.int .i64 ticket)) (.inl rfl) (.slice Atv told.length ctv)) (.inl rfl) (.slice A42 ops.length c42))
      have hWA : Below w.heap.size w (w50.alloc (.cells #[.nilIface, .nilIface] 79)) := bnext hZ.out (s10.out.2.2.trans (hAL2.mono s10.out.2.2.size))
      have hE := Lib.hid (kept_below hWA hKc (by rintro _ rfl; exact Nat.le_refl _))
      have hTF := Lib.hid (own_kept (own_below hT43.out hAL2) hKc (by rintro j hj rfl; omega))
      have hOF := Lib.hid (own_kept (own_below hO43.out hAL2) hKc (by rintro j hj rfl; omega))
      have hzA := block_below hAL hzD.out
      clear hAL hAL2 hKc hWA
      generalize (w50.alloc (.cells #[.nilIface, .nilIface] 79)) = WZ0 at *
      have hzA0 : (WZ0.setCell ⟨w.heap.size, 0, none⟩ (.int .i64 kind)).heap[w.heap.size]? = some (.cells #[.int .i64 kind, .int .i64 0, .int .i64 0, .int .i64 0, .int .i64 0, .int .i64 0, .int .i64 0, .int .i64 0, .int .i64 0, .slice none 0 0, .slice none 0 0] 37 (0, 0)) := block_setCell hzA 0 _
      generalize WZ0.setCell ⟨w.heap.size, 0, none⟩ (.int .i64 kind) = WZ1 at *
      have hzA1 : (WZ1.setCell ⟨w.heap.size, 1, none⟩ (.int .i64 from_)).heap[w.heap.size]? = some (.cells #[.int .i64 kind, .int .i64 from_, .int .i64 0, .int .i64 0, .int .i64 0, .int .i64 0, .int .i64 0, .int .i64 0, .int .i64 0, .slice none 0 0, .slice none 0 0] 37 (0, 0)) := block_setCell hzA0 1 _
      generalize WZ1.setCell ⟨w.heap.size, 1, none⟩ (.int .i64 from_) = WZ2 at *
      have hzA2 : (WZ2.setCell ⟨w.heap.size, 2, none⟩ (.int .i64 to_)).heap[w.heap.size]? = some (.cells #[.int .i64 kind, .int .i64 from_, .int .i64 to_, .int .i64 0, .int .i64 0, .int .i64 0, .int .i64 0, .int .i64 0, .int .i64 0, .slice none 0 0, .slice none 0 0] 37 (0, 0)) := block_setCell hzA1 2 _
      generalize WZ2.setCell ⟨w.heap.size, 2, none⟩ (.int .i64 to_) = WZ3 at *
      have hzA3 : (WZ3.setCell ⟨w.heap.size, 3, none⟩ (.int .i64 gg)).heap[w.heap.size]? = some (.cells #[.int .i64 kind, .int .i64 from_, .int .i64 to_, .int .i64 gg, .int .i64 0, .int .i64 0, .int .i64 0, .int .i64 0, .int .i64 0, .slice none 0 0, .slice none 0 0] 37 (0, 0)) := block_setCell hzA2 3 _
      generalize WZ3.setCell ⟨w.heap.size, 3, none⟩ (.int .i64 gg) = WZ4 at *
      have hzA4 : (WZ4.setCell ⟨w.heap.size, 4, none⟩ (.int .i64 node)).heap[w.heap.size]? = some (.cells #[.int .i64 kind, .int .i64 from_, .int .i64 to_, .int .i64 gg, .int .i64 node, .int .i64 0, .int .i64 0, .int .i64 0, .int .i64 0, .slice none 0 0, .slice none 0 0] 37 (0, 0)) := block_setCell hzA3 4 _
      generalize WZ4.setCell ⟨w.heap.size, 4, none⟩ (.int .i64 node) = WZ5 at *
      have hzA5 : (WZ5.setCell ⟨w.heap.size, 5, none⟩ (.int .i64 try_)).heap[w.heap.size]? = some (.cells #[.int .i64 kind, .int .i64 from_, .int .i64 to_, .int .i64 gg, .int .i64 node, .int .i64 try_, .int .i64 0, .int .i64 0, .int .i64 0, .slice none 0 0, .slice none 0 0] 37 (0, 0)) := block_setCell hzA4 5 _
      generalize WZ5.setCell ⟨w.heap.size, 5, none⟩ (.int .i64 try_) = WZ6 at *
      have hzA6 : (WZ6.setCell ⟨w.heap.size, 6, none⟩ (.int .i64 low)).heap[w.heap.size]? = some (.cells #[.int .i64 kind, .int .i64 from_, .int .i64 to_, .int .i64 gg, .int .i64 node, .int .i64 try_, .int .i64 low, .int .i64 0, .int .i64 0, .slice none 0 0, .slice none 0 0] 37 (0, 0)) := block_setCell hzA5 6 _
      generalize WZ6.setCell ⟨w.heap.size, 6, none⟩ (.int .i64 low) = WZ7 at *
      have hzA7 : (WZ7.setCell ⟨w.heap.size, 7, none⟩ (.int .i64 code)).heap[w.heap.size]? = some (.cells #[.int .i64 kind, .int .i64 from_, .int .i64 to_, .int .i64 gg, .int .i64 node, .int .i64 try_, .int .i64 low, .int .i64 code, .int .i64 0, .slice none 0 0, .slice none 0 0] 37 (0, 0)) := block_setCell hzA6 7 _
      generalize WZ7.setCell ⟨w.heap.size, 7, none⟩ (.int .i64 code) = WZ8 at *
      have hzA8 : (WZ8.setCell ⟨w.heap.size, 8, none⟩ (.int .i64 ticket)).heap[w.heap.size]? = some (.cells #[.int .i64 kind, .int .i64 from_, .int .i64 to_, .int .i64 gg, .int .i64 node, .int .i64 try_, .int .i64 low, .int .i64 code, .int .i64 ticket, .slice none 0 0, .slice none 0 0] 37 (0, 0)) := block_setCell hzA7 8 _
      generalize WZ8.setCell ⟨w.heap.size, 8, none⟩ (.int .i64 ticket) = WZ9 at *
      have hzA9 : (WZ9.setCell ⟨w.heap.size, 9, none⟩ (.slice Atv told.length ctv)).heap[w.heap.size]? = some (.cells #[.int .i64 kind, .int .i64 from_, .int .i64 to_, .int .i64 gg, .int .i64 node, .int .i64 try_, .int .i64 low, .int .i64 code, .int .i64 ticket, .slice Atv told.length ctv, .slice none 0 0] 37 (0, 0)) := block_setCell hzA8 9 _
      generalize WZ9.setCell ⟨w.heap.size, 9, none⟩ (.slice Atv told.length ctv) = WZ10 at *
      have hzA10 : (WZ10.setCell ⟨w.heap.size, 10, none⟩ (.slice A42 ops.length c42)).heap[w.heap.size]? = some (.cells #[.int .i64 kind, .int .i64 from_, .int .i64 to_, .int .i64 gg, .int .i64 node, .int .i64 try_, .int .i64 low, .int .i64 code, .int .i64 ticket, .slice Atv told.length ctv, .slice A42 ops.length c42] 37 (0, 0)) := block_setCell hzA9 10 _
      generalize WZ10.setCell ⟨w.heap.size, 10, none⟩ (.slice A42 ops.length c42) = WF at *
      have hWFb := hzA10
      clear hzA hzA0 hzA1 hzA2 hzA3 hzA4 hzA5 hzA6 hzA7 hzA8 hzA9 hzA10
      obtain ⟨c0, c1, c2, c3, c4, c5, c6, c7, c8, c9, c10⟩ := msg_cells hWFb
      clear hWFb
      go_wp2_with fail
      have hok1 := hok.1
      refine bodyPost_ret (v := .tuple #[.agg (msgA ⟨kind, from_, to_, gg, node, try_, low, code, ticket, told, ops⟩ Atv ctv A42 c42), .nilIface]) ?_ rfl ⟨Atv, ctv, A42, c42, rfl, ⟨RowAt.of_own hTF.out rfl, RowAt.of_own hOF.out rfl, by show told.length ≤ _; omega, by show ops.length ≤ _; omega, fun o ho => Nat.le_trans (hops.out o ho).2.2 (by decide), hok.2.1, hok.2.2, ?_⟩, ⟨fun ad ha => ?_, fun ad hb => ?_⟩, hE.out⟩
      · simp [results, Tryz.results43, go_sem, msgA, *]
      · have f := hF.out
        have f1 := f.kind
        have f2 := f.from_
        have f3 := f.to_
        have f4 := f.g
        have f5 := f.node
        have f6 := f.try_
        have f7 := f.low
        have f8 := f.code
        simp only at f1 f2 f3 f4 f5 f6 f7 f8
        simp only [i64ok]
        refine ⟨?_, ?_, ?_, ?_, ?_, ?_, ?_, ?_, hok1⟩ <;> omega
      · have := own_ge hTF.out ad.block (by rw [ha]; rfl)
        omega
      · have := own_ge hOF.out ad.block (by rw [hb]; rfl)
        omega

end Go.Proofs.YteeiacfddjhhkaaGreatDoor
