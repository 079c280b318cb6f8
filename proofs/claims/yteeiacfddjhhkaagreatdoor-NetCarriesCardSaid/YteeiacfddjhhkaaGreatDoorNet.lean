/- net.Net as it lies in memory; New. -/
import Derived.Test.YteeiacfddjhhkaaGreatDoorDec
namespace Go.Proofs.YteeiacfddjhhkaaGreatDoor
open Go.RowKit
set_option maxRecDepth 100000

theorem run_ck (w : World) (e : Bool) (n : Nat) (x : Int) : (Instr.checkKey e (n + 1) 3 (.int .i64 x)).run Tryz.prog w = .ok () w := by
  simp [Instr.checkKey, run_underlying Tryz.underlying3, Result.andThen]
theorem run_look0 (w : World) (mb k : Nat) (x : Int) (hb : w.heap[mb]? = some (.map #[] k)) : (Instr.lookup 68 (.map (some mb)) (.int .i64 x) false).run Tryz.prog w = .ok (.int .i64 0) w := by
  have hz : (zeroValue 3).run Tryz.prog w = .ok (.int .i64 0) w := by kernel_rfl
  have hck : (Instr.checkKey (#[] : Array MapEntry).isEmpty 10000 3 (.int .i64 x)).run Tryz.prog w = .ok () w := run_ck w _ 9999 x
  have hf : (Instr.findKey 3 (.int .i64 x) []).run Tryz.prog w = .ok none w := by
    simp [Instr.findKey, run_underlying Tryz.underlying3, Instr.findNow, Result.andThen]
  simp only [Instr.lookup, Sem.run_bind, Sem.run_pure, Result.andThen_ok, run_underlying Tryz.underlying68, run_getObj_map w mb #[] k hb]
  rw [hck]
  simp only [Result.andThen_ok, hf, Sem.run_bind, hz, Sem.run_pure]
  simp [hf, hz, Result.andThen]
/-- A packet. -/
structure PK where
  b : List UInt8
  site : Int
  waits : Int
def pkC (v : Value) (k : PK) : List Value := [v, .int .i64 k.site, .int .i64 k.waits]
def pksC (vs : List Value) (ks : List PK) : List Value := (List.zipWith pkC vs ks).flatten
/-- The net in block p, nobody cut off: what it holds. Its rows lie behind p; its map ahead of it. -/
def NetAt (w : World) (p : Nat) (most : Int) (ks : List PK) : Prop :=
  ∃ A c mb mk vs, w.heap[p]? = some (.cells #[.int .i64 most, .slice A ks.length c, .map (some mb)] 71 (0, 0)) ∧ w.heap[mb]? = some (.map #[] mk) ∧ mb < p ∧ w.ownsRow (p + 1) 77 3 (.slice A ks.length c) ks.length (pksC vs ks) ∧ vs.length = ks.length ∧
    ∀ (i : Nat) (v : Value) (k : PK), vs[i]? = some v → ks[i]? = some k → OB w (p + 1) v k.b ∧ k.b.length ≤ 100000 ∧ 0 ≤ k.waits ∧ k.waits ≤ 1000
theorem NetAt.later {w w' : World} {p : Nat} {most : Int} {ks : List PK} (h : NetAt w p most ks) (hb : Below w.heap.size w w') : NetAt w' p most ks := by
  obtain ⟨A, c, mb, mk, vs, h1, h2, h3, h4, h5, h6⟩ := h
  exact ⟨A, c, mb, mk, vs, block_below hb h1, block_below hb h2, h3, own_below h4 hb, h5, fun i v k hv hk => ⟨(h6 i v k hv hk).1.below hb, (h6 i v k hv hk).2⟩⟩
/-- Blocks that a net's call may change: from p on, of packets or a net. -/
def NS (w : World) (p : Nat) (k : Nat) : Prop := p ≤ k ∧ ∃ cur T fr, w.heap[k]? = some (.cells cur T fr) ∧ (T = 77 ∨ T = 71)
theorem new_any (most : Int) (w : World) (h : 1 ≤ most ∧ most ≤ 1024) :
    Calls Tryz.prog 7 #[.int .i64 most] w fun e w' => ∃ p, e = .returned (.tuple #[.pointer (some ⟨p, 0, none⟩), .int .i64 0]) ∧ NetAt w' p most [] ∧ w.heap.size < p ∧ Below w.heap.size w w' := by
  have h1 : decide (most < 1) = false := by simp; omega
  have h2 : decide (1024 < most) = false := by simp; omega
  have hm := fun W => run_makeMap (P := Tryz.prog) 68 W
  go_enter Tryz.func7, Tryz.ntmps7
  go_wp2_with fail
  refine bodyPost_ret (v := .tuple #[.pointer (some ⟨w.heap.size + 1, 0, none⟩), .int .i64 0]) ?_ rfl ⟨w.heap.size + 1, rfl, ⟨none, 0, w.heap.size, 0, [], ?_, ?_, by omega, own_nil _ _ _ _, rfl, fun i v k hv => by simp at hv⟩, by omega, ?_⟩
  · simp [results, Tryz.results7, go_sem]
  · have := heap_alloc_new (w.alloc (.map #[] 0)) (.cells #[.int .i64 most, .slice none 0 0, .map (some w.heap.size)] 71)
    rw [World.size_alloc] at this
    exact this
  · exact block_below (below_alloc (Below.refl _ _) _) (heap_alloc_new w _)
  · exact below_alloc (below_alloc (Below.refl _ _) _) _
theorem parted_no (p : Nat) (most : Int) (ks : List PK) (x : Int) (w : World) (h : NetAt w p most ks) :
    Calls Tryz.prog 34 #[.pointer (some ⟨p, 0, none⟩), .int .i64 x] w fun e w' => e = .returned (.bool false) ∧ w' = w := by
  obtain ⟨A, c, mb, mk, vs, hb, hmb, _⟩ := h
  have x2 : w.cell? ⟨p, 2, none⟩ = some (.map (some mb)) := by rw [block_cell hb]; rfl
  have hlk := run_look0 w mb mk x hmb
  clear hb hmb
  go_enter Tryz.func34, Tryz.ntmps34
  go_wp2_with fail
  go_ret
  exact ⟨rfl, rfl⟩
theorem at_ok (p : Nat) (most : Int) (ks : List PK) (i : Nat) (w : World) (h : NetAt w p most ks) (hi : i < ks.length) :
    Calls Tryz.prog 35 #[.pointer (some ⟨p, 0, none⟩), .int .i64 i] w fun e w' => e = .returned .nilIface ∧ w' = w := by
  obtain ⟨A, c, mb, mk, vs, hb, hmb, _⟩ := h
  have x1 : w.cell? ⟨p, 1, none⟩ = some (.slice A ks.length c) := by rw [block_cell hb]; rfl
  have d1 : decide ((i : Int) < 0) = false := by simp
  have d2 : decide ((ks.length : Int) ≤ i) = false := by simp; omega
  clear hb hmb
  go_enter Tryz.func35, Tryz.ntmps35
  go_wp2_with fail
  go_ret
  exact ⟨rfl, rfl⟩
theorem at_none (p : Nat) (most : Int) (ks : List PK) (i : Int) (w : World) (h : NetAt w p most ks) (hi : i < 0 ∨ (ks.length : Int) ≤ i) :
    Calls Tryz.prog 35 #[.pointer (some ⟨p, 0, none⟩), .int .i64 i] w (RetE w 3) := by
  obtain ⟨A, c, mb, mk, vs, hb, hmb, _⟩ := h
  have x1 : w.cell? ⟨p, 1, none⟩ = some (.slice A ks.length c) := by rw [block_cell hb]; rfl
  clear hb hmb
  by_cases h0 : i < 0
  · have d1 : decide (i < 0) = true := by simpa using h0
    clear hi
    go_enter Tryz.func35, Tryz.ntmps35
    go_wp2_with fail
    refine (new_err 3 (by decide) _).mono ?_
    rintro e w1 ⟨T, b, rfl, hE_, hB_⟩
    have hE := Lib.hid hE_
    have hB := Lib.hid hB_
    clear hE_ hB_
    go_wp2_with fail
    refine (at_any i _ 3 _ hE.out).mono ?_
    rintro e w2 ⟨T2, b2, rfl, hE_, hB_⟩
    have hE2 := Lib.hid hE_
    have hB2 := Lib.hid (bnext hB.out hB_)
    clear hE_ hB_
    go_wp2_with fail
    go_ret
    exact RetE.mk rfl hE2.out hB2.out
  · have hi : (ks.length : Int) ≤ i := by omega
    have d1 : decide (i < 0) = false := by simpa using h0
    have d2 : decide ((ks.length : Int) ≤ i) = true := by simpa using hi
    go_enter Tryz.func35, Tryz.ntmps35
    go_wp2_with fail
    refine (new_err 3 (by decide) _).mono ?_
    rintro e w1 ⟨T, b, rfl, hE_, hB_⟩
    have hE := Lib.hid hE_
    have hB := Lib.hid hB_
    clear hE_ hB_
    go_wp2_with fail
    refine (at_any i _ 3 _ hE.out).mono ?_
    rintro e w2 ⟨T2, b2, rfl, hE_, hB_⟩
    have hE2 := Lib.hid hE_
    have hB2 := Lib.hid (bnext hB.out hB_)
    clear hE_ hB_
    go_wp2_with fail
    go_ret
    exact RetE.mk rfl hE2.out hB2.out
end Go.Proofs.YteeiacfddjhhkaaGreatDoor
