/- Two operations compared by '!='. The document's comparisons: Nums, Same of operations, Same of messages: each tells whether the two are the same. -/
import Derived.Test.YteeiacfddjhhkaaGreatDoorEnc
import Derived.Laws.StructEq
namespace Go.Proofs.YteeiacfddjhhkaaGreatDoor
open Go.RowKit
set_option maxRecDepth 100000

theorem bytes_eq {a b : ByteArray} (h : a.toList = b.toList) : a = b := by
  rw [ByteArray.toList_eq, ByteArray.toList_eq] at h
  obtain ⟨⟨x⟩⟩ := a
  obtain ⟨⟨y⟩⟩ := b
  simpa using h
theorem opNe (k1 : Int) (s1 : ByteArray) (n1 l1 k2 : Int) (s2 : ByteArray) (n2 l2 : Int) (w : World) : (binOp .neq 108 (.agg #[.int .i64 k1, .string s1, .int .i64 n1, .int .i64 l1]) (.agg #[.int .i64 k2, .string s2, .int .i64 n2, .int .i64 l2])).run Tryz.prog w = .ok (.bool (!(k1 == k2 && (s1.toList == s2.toList && (n1 == n2 && l1 == l2))))) w := by
  have hf : Tryz.prog.underlying 108 = some (.struct (Tryz.prog.fieldsOf 108)) := by kernel_rfl
  have hp : Tryz.prog.stoodInHeld 108 = false := by kernel_rfl
  have hl : (Tryz.prog.fieldsOf 108).toList.map (fun f => (f.name, f.type, f.offset)) = [("Kind", 3, 0), ("Key", 9, 1), ("N", 2, 2), ("Lo", 2, 3)] := by kernel_rfl
  simp only [run_neq_struct, run_equalIn_agg w 9999 _ _ _ hf hp]
  have p0 : ∀ (a b c d : Value), (part 3 #[a, b, c, d] 0).run Tryz.prog w = .ok a w := fun a b c d => by kernel_rfl
  have p1 : ∀ (a b c d : Value), (part 9 #[a, b, c, d] 1).run Tryz.prog w = .ok b w := fun a b c d => by kernel_rfl
  have p2 : ∀ (a b c d : Value), (part 2 #[a, b, c, d] 2).run Tryz.prog w = .ok c w := fun a b c d => by kernel_rfl
  have p3 : ∀ (a b c d : Value), (part 2 #[a, b, c, d] 3).run Tryz.prog w = .ok d w := fun a b c d => by kernel_rfl
  have e0 := fun a b => run_equalIn_int (P := Tryz.prog) w 9998 3 .i64 .i64 a b Tryz.underlying3
  have e1 := fun a b => run_equalIn_string (P := Tryz.prog) w 9998 9 a b Tryz.underlying9
  have e2 := fun a b => run_equalIn_int (P := Tryz.prog) w 9998 2 .i64 .i64 a b Tryz.underlying2
  generalize (Tryz.prog.fieldsOf 108).toList = fs at hl ⊢
  rcases fs with _ | ⟨f0, _ | ⟨f1, _ | ⟨f2, _ | ⟨f3, _ | ⟨f4, r⟩⟩⟩⟩⟩ <;> simp only [List.map_nil, List.map_cons, List.cons.injEq, Prod.mk.injEq, reduceCtorEq, and_false, and_true] at hl
  obtain ⟨⟨n0, t0, o0⟩, ⟨n1', t1, o1⟩, ⟨n2', t2, o2⟩, n3, t3, o3⟩ := hl
  have q0 : f0.name ≠ "_" := by rw [n0]; decide
  have q1 : f1.name ≠ "_" := by rw [n1']; decide
  have q2 : f2.name ≠ "_" := by rw [n2']; decide
  have q3 : f3.name ≠ "_" := by rw [n3]; decide
  simp only [Op.eqFields, q0, q1, q2, q3, ne_eq, not_false_iff, if_true, t0, t1, t2, t3, o0, o1, o2, o3, Sem.run_bind, Sem.run_ite, Sem.run_pure, Result.andThen_ok, p0, p1, p2, p3, e0, e1, e2]
  cases (k1 == k2) <;> cases (s1.toList == s2.toList) <;> cases (n1 == n2) <;> cases (l1 == l2) <;> simp
end Go.Proofs.YteeiacfddjhhkaaGreatDoor
namespace Go.Proofs.YteeiacfddjhhkaaGreatDoor
open Go.RowKit
set_option maxRecDepth 100000

/-- A call answers a bool that tells p; old memory is as it was. -/
def RetP (w : World) (p : Prop) (e : Ending) (w' : World) : Prop := ∃ b : Bool, e = .returned (.bool b) ∧ (b = true ↔ p) ∧ Below w.heap.size w w'
theorem i64s_at {w : World} {A : Option Addr} {l : List Int} (h : RowAt w A (i64s l)) {k : Nat} (hk : k < l.length) : ∃ ad, A = some ad ∧ w.cell? (ad.add k) = some (.int .i64 l[k]) := h k _ (by rw [i64s, List.getElem?_map, List.getElem?_eq_getElem hk]; rfl)
theorem nums_any (A B : Option Addr) (a b : List Int) (c d : Nat) (w : World) (h1 : RowAt w A (i64s a)) (h2 : RowAt w B (i64s b)) (hal : a.length ≤ 1000000) (hbl : b.length ≤ 1000000) :
    Calls Tryz.prog 40 #[.slice A a.length c, .slice B b.length d] w (RetP w (a = b)) := by
  have hR1 := Lib.hid h1
  have hR2 := Lib.hid h2
  clear h1 h2
  by_cases hlen : (a.length : Int) = b.length
  · have hll : a.length = b.length := by omega
    go_enter Tryz.func40, Tryz.ntmps40
    go_wp2_with fail
    have hLL := Lib.hid hll
    clear hll hlen
    go_loopw [5, 13] (fun _ i wr => ∃ k : Nat, k ≤ a.length ∧ i = .int .i64 k ∧ Hid (a.take k = b.take k) ∧ Below w.heap.size w wr) (fun _ i _ => a.length - (intOf i).toNat)
    case atStart => exact ⟨0, by omega, rfl, Lib.hid rfl, Below.refl _ _⟩
    case round =>
      obtain ⟨k, hk, rfl, hT, hB_⟩ := hrel
      have hB := Lib.hid hB_
      by_cases hlt : k < a.length
      · have hlt2 : k < b.length := by have := hLL.out; omega
        obtain ⟨ad1, rfl, hc1⟩ := i64s_at (hR1.out.below hB_) hlt
        obtain ⟨ad2, rfl, hc2⟩ := i64s_at (hR2.out.below hB_) hlt2
        clear hB_
        by_cases he : a[k] = b[k]
        · have hT2 : Hid (a.take (k + 1) = b.take (k + 1)) := Lib.hid (by rw [List.take_succ_eq_append_getElem hlt, List.take_succ_eq_append_getElem hlt2, hT.out, he])
          have hne : (a[k] != b[k]) = false := by simp [he]
          generalize a[k] = x at *
          generalize b[k] = y at *
          clear he
          go_wp2_with fail
          go_quiet (fail)
          go_wp2_with fail
          go_roundw
          case rel => exact ⟨k + 1, by omega, by go_num, hT2, below_drewN hB.out _⟩
          case measure => simp [intOf]; omega
        · have hab : Hid (¬ a = b) := Lib.hid (by intro h; subst h; exact he rfl)
          have hne : (a[k] != b[k]) = true := by simp [he]
          generalize a[k] = x at *
          generalize b[k] = y at *
          clear he
          go_wp2_with fail
          go_quiet (fail)
          go_wp2_with fail
          go_ret
          exact ⟨false, rfl, by simp [hab.out], below_drewN hB.out _⟩
      · have hge : b.length ≤ k := by have := hLL.out; omega
        have hab : Hid (a = b) := Lib.hid (by
          have h := hT.out
          rw [List.take_of_length_le (by omega), List.take_of_length_le (by omega)] at h
          exact h)
        clear hB_ hT
        go_wp2_with fail
        go_ret
        exact ⟨true, rfl, by simp [hab.out], hB.out⟩
  · have hab : Hid (¬ a = b) := Lib.hid (by intro h; subst h; exact hlen rfl)
    go_enter Tryz.func40, Tryz.ntmps40
    go_wp2_with fail
    go_ret
    exact ⟨false, rfl, by simp [hab.out], Below.refl _ _⟩
theorem opsSame_any (A B : Option Addr) (a b : List POp) (c d : Nat) (w : World) (h1 : RowAt w A (opsC a)) (h2 : RowAt w B (opsC b)) (hal : a.length ≤ 1000000) (hbl : b.length ≤ 1000000) :
    Calls Tryz.prog 41 #[.slice A a.length c, .slice B b.length d] w (RetP w (a = b)) := by
  have hR1 := Lib.hid h1
  have hR2 := Lib.hid h2
  clear h1 h2
  by_cases hlen : (a.length : Int) = b.length
  · have hll : a.length = b.length := by omega
    go_enter Tryz.func41, Tryz.ntmps41
    go_wp2_with fail
    have hLL := Lib.hid hll
    clear hll hlen
    go_loopw [5, 13] (fun _ i wr => ∃ k : Nat, k ≤ a.length ∧ i = .int .i64 k ∧ Hid (a.take k = b.take k) ∧ Below w.heap.size w wr) (fun _ i _ => a.length - (intOf i).toNat)
    case atStart => exact ⟨0, by omega, rfl, Lib.hid rfl, Below.refl _ _⟩
    case round =>
      obtain ⟨k, hk, rfl, hT, hB_⟩ := hrel
      have hB := Lib.hid hB_
      by_cases hlt : k < a.length
      · have hlt2 : k < b.length := by have := hLL.out; omega
        obtain ⟨ad1, rfl, c10, c11, c12, c13⟩ := ops_at (hR1.out.below hB_) hlt
        obtain ⟨ad2, rfl, c20, c21, c22, c23⟩ := ops_at (hR2.out.below hB_) hlt2
        clear hB_
        by_cases he : a[k] = b[k]
        · have hT2 : Hid (a.take (k + 1) = b.take (k + 1)) := Lib.hid (by rw [List.take_succ_eq_append_getElem hlt, List.take_succ_eq_append_getElem hlt2, hT.out, he])
          have hne : ∀ W : World, (binOp .neq 108 (.agg #[.int .i64 a[k].kind, .string a[k].key, .int .i64 a[k].n, .int .i64 a[k].lo]) (.agg #[.int .i64 b[k].kind, .string b[k].key, .int .i64 b[k].n, .int .i64 b[k].lo])).run Tryz.prog W = .ok (.bool false) W := fun W => by rw [opNe, he]; simp
          generalize a[k] = x at *
          generalize b[k] = y at *
          obtain ⟨k1, s1, n1, l1⟩ := x
          obtain ⟨k2, s2, n2, l2⟩ := y
          clear he
          go_wp2_with fail
          go_quiet (fail)
          go_wp2_with fail
          go_roundw
          case rel => exact ⟨k + 1, by omega, by go_num, hT2, below_drewN hB.out _⟩
          case measure => simp [intOf]; omega
        · have hab : Hid (¬ a = b) := Lib.hid (by intro h; subst h; exact he rfl)
          have hne : ∀ W : World, (binOp .neq 108 (.agg #[.int .i64 a[k].kind, .string a[k].key, .int .i64 a[k].n, .int .i64 a[k].lo]) (.agg #[.int .i64 b[k].kind, .string b[k].key, .int .i64 b[k].n, .int .i64 b[k].lo])).run Tryz.prog W = .ok (.bool true) W := fun W => by
            rw [opNe]
            generalize a[k] = x at *
            generalize b[k] = y at *
            obtain ⟨k1, s1, n1, l1⟩ := x
            obtain ⟨k2, s2, n2, l2⟩ := y
            have h9 : ¬ (k1 = k2 ∧ s1.toList = s2.toList ∧ n1 = n2 ∧ l1 = l2) := by
              rintro ⟨rfl, hs, rfl, rfl⟩
              exact he (by rw [bytes_eq hs])
            simp only [Bool.not_eq_true', Value.bool.injEq, Result.ok.injEq, and_true, Bool.and_eq_false_iff, beq_eq_false_iff_ne]
            by_cases q1 : k1 = k2
            · by_cases q2 : s1.toList = s2.toList
              · by_cases q3 : n1 = n2
                · by_cases q4 : l1 = l2
                  · exact absurd ⟨q1, q2, q3, q4⟩ h9
                  · simp [q4]
                · simp [q3]
              · simp [q2]
            · simp [q1]
          generalize a[k] = x at *
          generalize b[k] = y at *
          obtain ⟨k1, s1, n1, l1⟩ := x
          obtain ⟨k2, s2, n2, l2⟩ := y
          clear he
          go_wp2_with fail
          go_quiet (fail)
          go_wp2_with fail
          go_ret
          exact ⟨false, rfl, by simp [hab.out], below_drewN hB.out _⟩
      · have hge : b.length ≤ k := by have := hLL.out; omega
        have hab : Hid (a = b) := Lib.hid (by
          have h := hT.out
          rw [List.take_of_length_le (by omega), List.take_of_length_le (by omega)] at h
          exact h)
        clear hB_ hT
        go_wp2_with fail
        go_ret
        exact ⟨true, rfl, by simp [hab.out], hB.out⟩
  · have hab : Hid (¬ a = b) := Lib.hid (by intro h; subst h; exact hlen rfl)
    go_enter Tryz.func41, Tryz.ntmps41
    go_wp2_with fail
    go_ret
    exact ⟨false, rfl, by simp [hab.out], Below.refl _ _⟩
set_option maxHeartbeats 4000000 in
theorem Same_any (m1 : PMsg) (A1 : Option Addr) (c1 : Nat) (B1 : Option Addr) (d1 : Nat) (m2 : PMsg) (A2 : Option Addr) (c2 : Nat) (B2 : Option Addr) (d2 : Nat) (w : World) (h1 : MsgR w m1 A1 c1 B1 d1) (h2 : MsgR w m2 A2 c2 B2 d2) :
    Calls Tryz.prog 12 #[.agg (msgA m1 A1 c1 B1 d1), .agg (msgA m2 A2 c2 B2 d2)] w (RetP w (m1 = m2)) := by
  have hR1 := Lib.hid h1
  have hR2 := Lib.hid h2
  clear h1 h2
  obtain ⟨kind, from_, to_, g, node, try_, low, code, ticket, told, ops⟩ := m1
  obtain ⟨kind', from_', to_', g', node', try_', low', code', ticket', told', ops'⟩ := m2
  simp only [msgA]
  have hB0 := Lib.hid (below_alloc (below_alloc (Below.refl _ w) (.cells #[.int .i64 kind, .int .i64 from_, .int .i64 to_, .int .i64 g, .int .i64 node, .int .i64 try_, .int .i64 low, .int .i64 code, .int .i64 ticket, .slice A1 told.length c1, .slice B1 ops.length d1] 31)) (.cells #[.int .i64 kind', .int .i64 from_', .int .i64 to_', .int .i64 g', .int .i64 node', .int .i64 try_', .int .i64 low', .int .i64 code', .int .i64 ticket', .slice A2 told'.length c2, .slice B2 ops'.length d2] 31))
  go_enter Tryz.func12, Tryz.ntmps12
  go_wp2_with fail
  · have hR1a := hR1.out
    have hR2a := hR2.out
    have hEQ := Lib.hid (show ((⟨kind, from_, to_, g, node, try_, low, code, ticket, told, ops⟩ : PMsg) = ⟨kind', from_', to_', g', node', try_', low', code', ticket', told', ops'⟩) ↔ (told = told' ∧ ops = ops') by simp_all)
    have hb1 := block_below (below_alloc (Below.refl _ (w.alloc (.cells #[.int .i64 kind', .int .i64 from_', .int .i64 to_', .int .i64 g', .int .i64 node', .int .i64 try_', .int .i64 low', .int .i64 code', .int .i64 ticket', .slice A1 told.length c1, .slice B1 ops.length d1] 31))) (.cells #[.int .i64 kind', .int .i64 from_', .int .i64 to_', .int .i64 g', .int .i64 node', .int .i64 try_', .int .i64 low', .int .i64 code', .int .i64 ticket', .slice A2 told'.length c2, .slice B2 ops'.length d2] 31)) (heap_alloc_new w (.cells #[.int .i64 kind', .int .i64 from_', .int .i64 to_', .int .i64 g', .int .i64 node', .int .i64 try_', .int .i64 low', .int .i64 code', .int .i64 ticket', .slice A1 told.length c1, .slice B1 ops.length d1] 31))
    have hb2 := heap_alloc_new (w.alloc (.cells #[.int .i64 kind', .int .i64 from_', .int .i64 to_', .int .i64 g', .int .i64 node', .int .i64 try_', .int .i64 low', .int .i64 code', .int .i64 ticket', .slice A1 told.length c1, .slice B1 ops.length d1] 31)) (.cells #[.int .i64 kind', .int .i64 from_', .int .i64 to_', .int .i64 g', .int .i64 node', .int .i64 try_', .int .i64 low', .int .i64 code', .int .i64 ticket', .slice A2 told'.length c2, .slice B2 ops'.length d2] 31)
    rw [World.size_alloc] at hb2
    have hB1 := Lib.hid (below_alloc (below_alloc (Below.refl _ w) (.cells #[.int .i64 kind', .int .i64 from_', .int .i64 to_', .int .i64 g', .int .i64 node', .int .i64 try_', .int .i64 low', .int .i64 code', .int .i64 ticket', .slice A1 told.length c1, .slice B1 ops.length d1] 31)) (.cells #[.int .i64 kind', .int .i64 from_', .int .i64 to_', .int .i64 g', .int .i64 node', .int .i64 try_', .int .i64 low', .int .i64 code', .int .i64 ticket', .slice A2 told'.length c2, .slice B2 ops'.length d2] 31))
    generalize (w.alloc (.cells #[.int .i64 kind', .int .i64 from_', .int .i64 to_', .int .i64 g', .int .i64 node', .int .i64 try_', .int .i64 low', .int .i64 code', .int .i64 ticket', .slice A1 told.length c1, .slice B1 ops.length d1] 31)).alloc (.cells #[.int .i64 kind', .int .i64 from_', .int .i64 to_', .int .i64 g', .int .i64 node', .int .i64 try_', .int .i64 low', .int .i64 code', .int .i64 ticket', .slice A2 told'.length c2, .slice B2 ops'.length d2] 31) = w1 at *
    have hx1 := Lib.hid (show w1.cell? ⟨w.heap.size, 10, none⟩ = some (.slice B1 ops.length d1) by rw [block_cell hb1]; rfl)
    have hx2 := Lib.hid (show w1.cell? ⟨w.heap.size + 1, 10, none⟩ = some (.slice B2 ops'.length d2) by rw [block_cell hb2]; rfl)
    clear hb1 hb2
    refine (nums_any A1 A2 told told' c1 c2 _ (hR1a.told.below hB1.out) (hR2a.told.below hB1.out) hR1a.toldle hR2a.toldle).mono ?_
    rintro e w2 ⟨b, rfl, hb, hB_⟩
    have hB2 := Lib.hid hB_
    have hbH := Lib.hid hb
    have x1 := cell_below hB_ hx1.out
    have x2 := cell_below hB_ hx2.out
    clear hB_ hb hR1a hR2a hB0
    cases b
    · go_wp2_with fail
      go_ret
      exact ⟨false, rfl, by rw [hEQ.out]; have := hbH.out; simp at this ⊢; intro h; exact absurd h this, bnext hB1.out hB2.out⟩
    · go_wp2_with fail
      refine (opsSame_any B1 B2 ops ops' d1 d2 _ (hR1.out.ops.below (bnext hB1.out hB2.out)) (hR2.out.ops.below (bnext hB1.out hB2.out)) hR1.out.opsle hR2.out.opsle).mono ?_
      rintro e w3 ⟨b, rfl, hb, hB_⟩
      have hB3 := Lib.hid hB_
      have hb3 := Lib.hid hb
      clear hB_ hb
      go_wp2_with fail
      go_ret
      exact ⟨b, rfl, by rw [hEQ.out, hb3.out]; have := hbH.out; simp at this; simp [this], bnext (bnext hB1.out hB2.out) hB3.out⟩
  all_goals
    have hne := Lib.hid (show ¬ ((⟨kind, from_, to_, g, node, try_, low, code, ticket, told, ops⟩ : PMsg) = ⟨kind', from_', to_', g', node', try_', low', code', ticket', told', ops'⟩) by simp_all)
    go_ret
    exact ⟨false, rfl, by simp [hne.out], below_alloc (below_alloc (Below.refl _ _) _) _⟩
end Go.Proofs.YteeiacfddjhhkaaGreatDoor
