/- net.Net as it lies in memory; New. A net that is not there. net.Deliver where there is no packet: a net that is not there, a number that is none. A net's packets as cells; Len, Hold. net.Tick. -/
import Derived.Test.YteeiacfddjhhkaaGreatDoorDec
import Derived.Maps.Own
import Derived.Laws.OwnMore
import Derived.StillTailTactics
namespace Go.Proofs.YteeiacfddjhhkaaGreatDoor
open Go.RowKit
set_option maxRecDepth 100000

theorem run_ck (w : World) (e : Bool) (n : Nat) (x : Int) : (Instr.checkKey e (n + 1) 3 (.int .i64 x)).run Tryz.prog w = .ok () w := by
  simp [Instr.checkKey, run_underlying Tryz.underlying3, Result.andThen]
/-- Which of the three sites are cut off. -/
structure Cuts where
  c1 : Bool
  c2 : Bool
  c3 : Bool
def noCut : Cuts := ⟨false, false, false⟩
def cutAt (c : Cuts) (x : Int) : Bool := (x == 1 && c.c1) || (x == 2 && c.c2) || (x == 3 && c.c3)
def cutE (n : Int) : Lit × DataW Unit := (.int .i64 n, .lit (.int .i64 1))
def cutL (c : Cuts) : List (Lit × DataW Unit) := (if c.c1 then [cutE 1] else []) ++ ((if c.c2 then [cutE 2] else []) ++ (if c.c3 then [cutE 3] else []))
def cutD (c : Cuts) : DataW Unit := .map (cutL c)

/-- A map's entries that say so. -/
structure MapIs (c : Cuts) where
  es : Array MapEntry
  ck : Nat
  fit : Go.WideElems.Fit Tryz.prog 3 (plainElem (H := Unit) Tryz.prog 3) es ck
  rd : (es.toList.map (Go.WideElems.rg Tryz.prog 3 (plainElem (H := Unit) Tryz.prog 3))).foldr DataW.insert [] = cutL c
theorem MapIs.small {c : Cuts} (m : MapIs c) : m.es.size ≤ 3 := by
  have h := length_sorted (m.es.toList.map (Go.WideElems.rg Tryz.prog 3 (plainElem (H := Unit) Tryz.prog 3)))
  rw [m.rd, List.length_map, Array.length_toList] at h
  refine Nat.le_trans (Nat.le_of_eq h.symm) ?_
  obtain ⟨c1, c2, c3⟩ := c
  cases c1 <;> cases c2 <;> cases c3 <;> decide
theorem MapIs.owns {c : Cuts} (m : MapIs c) {w : World} {mb : Nat} (h : w.heap[mb]? = some (.map m.es m.ck)) : w.ownsMap Tryz.prog 3 (plainElem (H := Unit) Tryz.prog 3) mb 3 (cutD c) :=
  ⟨m.es, m.ck, h, m.fit, m.small, by rw [m.rd]; rfl⟩
theorem MapIs.of {c : Cuts} {w : World} {mb n : Nat} (h : w.ownsMap Tryz.prog 3 (plainElem (H := Unit) Tryz.prog 3) mb n (cutD c)) : ∃ m : MapIs c, w.heap[mb]? = some (.map m.es m.ck) := by
  obtain ⟨es, ck, hb, F, _, hD⟩ := h
  refine ⟨⟨es, ck, F, ?_⟩, hb⟩
  unfold cutD at hD
  injection hD with hD
  exact hD.symm
theorem cut_atKey (c : Cuts) (x : Int) : (cutD c).atKey (.int .i64 x) (.lit (.int .i64 0)) = .lit (.int .i64 (if cutAt c x then 1 else 0)) := by
  obtain ⟨c1, c2, c3⟩ := c
  by_cases h1 : x = 1
  · subst h1; cases c1 <;> cases c2 <;> cases c3 <;> rfl
  by_cases h2 : x = 2
  · subst h2; cases c1 <;> cases c2 <;> cases c3 <;> rfl
  by_cases h3 : x = 3
  · subst h3; cases c1 <;> cases c2 <;> cases c3 <;> rfl
  have e : cutAt ⟨c1, c2, c3⟩ x = false := by simp [cutAt, h1, h2, h3]
  rw [e]
  cases c1 <;> cases c2 <;> cases c3 <;> simp [cutD, cutL, cutE, DataW.atKey, Lit.sameKey, Ne.symm h1, Ne.symm h2, Ne.symm h3]
theorem run_lookC {c : Cuts} (m : MapIs c) (w : World) (mb : Nat) (x : Int) (hx : i64ok x) (hb : w.heap[mb]? = some (.map m.es m.ck)) : (Instr.lookup 68 (.map (some mb)) (.int .i64 x) false).run Tryz.prog w = .ok (.int .i64 (if cutAt c x then 1 else 0)) w := by
  have hz : (zeroValue 3).run Tryz.prog w = .ok (.int .i64 0) w := by kernel_rfl
  have hwf : (Lit.int .i64 x).wf = true := by
    obtain ⟨h0, h1⟩ := hx
    simp [Lit.wf, IntKind.min, IntKind.max, IntKind.signed, IntKind.bits]
    omega
  obtain ⟨y, hrun, hat, _⟩ := (m.owns hb).lookup_int (Go.Maps.int_keyed Tryz.underlying3) Tryz.underlying68 Tryz.underlying3 hz (Go.Maps.keyOf_int_mk Tryz.underlying3 hwf)
  rw [cut_atKey] at hat
  injection hat with hat
  injection hat with _ hat
  rw [hrun, hat]
/-- A packet. -/
structure PK where
  b : List UInt8
  site : Int
  waits : Int
def pkC (v : Value) (k : PK) : List Value := [v, .int .i64 k.site, .int .i64 k.waits]
def pksC (vs : List Value) (ks : List PK) : List Value := (List.zipWith pkC vs ks).flatten
/-- The net in block p, nobody cut off: what it holds. Its rows lie behind p; its map ahead of it. -/
def NetAt (cz : Cuts) (w : World) (p : Nat) (most : Int) (ks : List PK) : Prop :=
  ∃ A c mb, ∃ mk : MapIs cz, ∃ vs, w.heap[p]? = some (.cells #[.int .i64 most, .slice A ks.length c, .map (some mb)] 71 (0, 0)) ∧ w.heap[mb]? = some (.map mk.es mk.ck) ∧ mb + 1 = p ∧ w.ownsRow (p + 1) 77 3 (.slice A ks.length c) ks.length (pksC vs ks) ∧ vs.length = ks.length ∧
    ∀ (i : Nat) (v : Value) (k : PK), vs[i]? = some v → ks[i]? = some k → OB w (p + 1) v k.b ∧ k.b.length ≤ 100000 ∧ 0 ≤ k.waits ∧ k.waits ≤ 1000
theorem NetAt.later {cz : Cuts} {w w' : World} {p : Nat} {most : Int} {ks : List PK} (h : NetAt cz w p most ks) (hb : Below w.heap.size w w') : NetAt cz w' p most ks := by
  obtain ⟨A, c, mb, mk, vs, h1, h2, h3, h4, h5, h6⟩ := h
  exact ⟨A, c, mb, mk, vs, block_below hb h1, block_below hb h2, h3, own_below h4 hb, h5, fun i v k hv hk => ⟨(h6 i v k hv hk).1.below hb, (h6 i v k hv hk).2⟩⟩
/-- Blocks that a net's call may change: from p on, of packets or a net. -/
def NS (w : World) (p : Nat) (k : Nat) : Prop := p ≤ k ∧ ∃ cur T fr, w.heap[k]? = some (.cells cur T fr) ∧ (T = 77 ∨ T = 71)
theorem new_any (most : Int) (w : World) (h : 1 ≤ most ∧ most ≤ 1024) :
    Calls Tryz.prog 7 #[.int .i64 most] w fun e w' => ∃ p, e = .returned (.tuple #[.pointer (some ⟨p, 0, none⟩), .int .i64 0]) ∧ NetAt noCut w' p most [] ∧ w.heap.size < p ∧ Below w.heap.size w w' := by
  have h1 : decide (most < 1) = false := by simp; omega
  have h2 : decide (1024 < most) = false := by simp; omega
  have hm := fun W => run_makeMap (P := Tryz.prog) 68 W
  obtain ⟨m, hmk⟩ := MapIs.of (c := noCut) (World.ownsMap_made w Tryz.prog 3 (plainElem (H := Unit) Tryz.prog 3))
  have hMK := Lib.hid hmk
  clear hmk
  go_enter Tryz.func7, Tryz.ntmps7
  go_wp2_with fail
  refine bodyPost_ret (v := .tuple #[.pointer (some ⟨w.heap.size + 1, 0, none⟩), .int .i64 0]) ?_ rfl ⟨w.heap.size + 1, rfl, ⟨none, 0, w.heap.size, m, [], ?_, ?_, by omega, own_nil _ _ _ _, rfl, fun i v k hv => by simp at hv⟩, by omega, ?_⟩
  · simp [results, Tryz.results7, go_sem]
  · have := heap_alloc_new (w.alloc (.map #[] 0)) (.cells #[.int .i64 most, .slice none 0 0, .map (some w.heap.size)] 71)
    rw [World.size_alloc] at this
    exact this
  · exact block_below (below_alloc (Below.refl _ _) _) hMK.out
  · exact below_alloc (below_alloc (Below.refl _ _) _) _
variable {cz : Cuts}
theorem parted_any (p : Nat) (most : Int) (ks : List PK) (x : Int) (w : World) (h : NetAt cz w p most ks) (hx : i64ok x) :
    Calls Tryz.prog 34 #[.pointer (some ⟨p, 0, none⟩), .int .i64 x] w fun e w' => e = .returned (.bool (cutAt cz x)) ∧ w' = w := by
  obtain ⟨A, c, mb, mk, vs, hb, hmb, _⟩ := h
  have x2 : w.cell? ⟨p, 2, none⟩ = some (.map (some mb)) := by rw [block_cell hb]; rfl
  have hlk := run_lookC mk w mb x hx hmb
  clear hb hmb
  cases hcx : cutAt cz x
  · rw [hcx, if_neg (by decide)] at hlk
    clear hcx
    go_enter Tryz.func34, Tryz.ntmps34
    go_wp2_with fail
    go_ret
    exact ⟨rfl, rfl⟩
  · rw [hcx, if_pos rfl] at hlk
    clear hcx
    go_enter Tryz.func34, Tryz.ntmps34
    go_wp2_with fail
    go_ret
    exact ⟨rfl, rfl⟩
theorem at_ok (p : Nat) (most : Int) (ks : List PK) (i : Nat) (w : World) (h : NetAt cz w p most ks) (hi : i < ks.length) :
    Calls Tryz.prog 35 #[.pointer (some ⟨p, 0, none⟩), .int .i64 i] w fun e w' => e = .returned .nilIface ∧ w' = w := by
  obtain ⟨A, c, mb, mk, vs, hb, hmb, _⟩ := h
  have x1 : w.cell? ⟨p, 1, none⟩ = some (.slice A ks.length c) := by rw [block_cell hb]; rfl
  have d1 : decide ((i : Int) < 0) = false := by simp
  have d2 : decide ((ks.length : Int) ≤ i) = false := by simp; omega
  clear hb hmb
  go_enter Tryz.func35, Tryz.ntmps35
  go_wp2_with fail
  go_ret
  exact ⟨rfl, rfl⟩
theorem at_none (p : Nat) (most : Int) (ks : List PK) (i : Int) (w : World) (h : NetAt cz w p most ks) (hi : i < 0 ∨ (ks.length : Int) ≤ i) :
    Calls Tryz.prog 35 #[.pointer (some ⟨p, 0, none⟩), .int .i64 i] w (RetE w 3) := by
  obtain ⟨A, c, mb, mk, vs, hb, hmb, _⟩ := h
  have x1 : w.cell? ⟨p, 1, none⟩ = some (.slice A ks.length c) := by rw [block_cell hb]; rfl
  clear hb hmb
  by_cases h0 : i < 0
  · have d1 : decide (i < 0) = true := by simpa using h0
    clear hi
    go_enter Tryz.func35, Tryz.ntmps35
    go_wp2_with fail
    refine (new_err 3 (by decide) _).mono ?_
    rintro e w1 ⟨T, b, rfl, hE_, hB_⟩
    have hE := Lib.hid hE_
    have hB := Lib.hid hB_
    clear hE_ hB_
    go_wp2_with fail
    refine (at_any i _ 3 _ hE.out).mono ?_
    rintro e w2 ⟨T2, b2, rfl, hE_, hB_⟩
    have hE2 := Lib.hid hE_
    have hB2 := Lib.hid (bnext hB.out hB_)
    clear hE_ hB_
    go_wp2_with fail
    go_ret
    exact RetE.mk rfl hE2.out hB2.out
  · have hi : (ks.length : Int) ≤ i := by omega
    have d1 : decide (i < 0) = false := by simpa using h0
    have d2 : decide ((ks.length : Int) ≤ i) = true := by simpa using hi
    go_enter Tryz.func35, Tryz.ntmps35
    go_wp2_with fail
    refine (new_err 3 (by decide) _).mono ?_
    rintro e w1 ⟨T, b, rfl, hE_, hB_⟩
    have hE := Lib.hid hE_
    have hB := Lib.hid hB_
    clear hE_ hB_
    go_wp2_with fail
    refine (at_any i _ 3 _ hE.out).mono ?_
    rintro e w2 ⟨T2, b2, rfl, hE_, hB_⟩
    have hE2 := Lib.hid hE_
    have hB2 := Lib.hid (bnext hB.out hB_)
    clear hE_ hB_
    go_wp2_with fail
    go_ret
    exact RetE.mk rfl hE2.out hB2.out
end Go.Proofs.YteeiacfddjhhkaaGreatDoor
namespace Go.Proofs.YteeiacfddjhhkaaGreatDoor
open Go.RowKit
set_option maxRecDepth 100000

theorem at_nil (i : Int) (w : World) : Calls Tryz.prog 35 #[.pointer none, .int .i64 i] w (RetE w 1) := by
  go_enter Tryz.func35, Tryz.ntmps35
  go_wp2_with fail
  refine (new_err 1 (by decide) _).mono ?_
  rintro e w1 ⟨T, b, rfl, hE_, hB_⟩
  have hE := Lib.hid hE_
  have hB := Lib.hid hB_
  clear hE_ hB_
  go_wp2_with fail
  go_ret
  exact RetE.mk rfl hE.out hB.out
theorem site_nil (i : Int) (w : World) : Calls Tryz.prog 54 #[.pointer none, .int .i64 i] w (RetE w 1) := by
  go_enter Tryz.func54, Tryz.ntmps54
  go_wp2_with fail
  refine (new_err 1 (by decide) _).mono ?_
  rintro e w1 ⟨T, b, rfl, hE_, hB_⟩
  have hE := Lib.hid hE_
  have hB := Lib.hid hB_
  clear hE_ hB_
  go_wp2_with fail
  go_ret
  exact RetE.mk rfl hE.out hB.out
theorem Drop_nil (i : Int) (w : World) (hG : GOk w) : Calls Tryz.prog 19 #[.pointer none, .int .i64 i] w fun e w' => e = .returned (.int .i64 1) ∧ Below w.heap.size w w' := by
  have hGG := Lib.hid hG
  clear hG
  go_enter Tryz.func19, Tryz.ntmps19
  go_wp2_with fail
  refine (at_nil i _).mono ?_
  rintro e w1 ⟨T, b, rfl, hE_, hB_⟩
  have hE := Lib.hid hE_
  have hB := Lib.hid hB_
  clear hE_ hB_
  go_wp2_with fail
  have hX := hB.out
  refine (code_err _ 1 _ hE.out (hGG.out.below hX)).mono ?_
  rintro e w2 ⟨rfl, hB_⟩
  have hB2 := Lib.hid (bnext hX hB_)
  clear hB_
  go_wp2_with fail
  go_ret
  exact ⟨rfl, hB2.out⟩
theorem Twice_nil (i : Int) (w : World) (hG : GOk w) : Calls Tryz.prog 20 #[.pointer none, .int .i64 i] w fun e w' => e = .returned (.int .i64 1) ∧ Below w.heap.size w w' := by
  have hGG := Lib.hid hG
  clear hG
  go_enter Tryz.func20, Tryz.ntmps20
  go_wp2_with fail
  refine (at_nil i _).mono ?_
  rintro e w1 ⟨T, b, rfl, hE_, hB_⟩
  have hE := Lib.hid hE_
  have hB := Lib.hid hB_
  clear hE_ hB_
  go_wp2_with fail
  go_quiet (fail)
  go_wp2_with fail
  have hX := below_drewN hB.out nq
  refine (code_err _ 1 _ (hE.out.later (below_drewN (Below.refl _ _) _)) (hGG.out.below hX)).mono ?_
  rintro e w2 ⟨rfl, hB_⟩
  have hB2 := Lib.hid (bnext hX hB_)
  clear hB_
  go_wp2_with fail
  go_ret
  exact ⟨rfl, hB2.out⟩
theorem Move_nil (i k : Int) (w : World) (hG : GOk w) : Calls Tryz.prog 21 #[.pointer none, .int .i64 i, .int .i64 k] w fun e w' => e = .returned (.int .i64 1) ∧ Below w.heap.size w w' := by
  have hGG := Lib.hid hG
  clear hG
  go_enter Tryz.func21, Tryz.ntmps21
  go_wp2_with fail
  refine (at_nil i _).mono ?_
  rintro e w1 ⟨T, b, rfl, hE_, hB_⟩
  have hE := Lib.hid hE_
  have hB := Lib.hid hB_
  clear hE_ hB_
  go_wp2_with fail
  have hX := hB.out
  refine (code_err _ 1 _ hE.out (hGG.out.below hX)).mono ?_
  rintro e w2 ⟨rfl, hB_⟩
  have hB2 := Lib.hid (bnext hX hB_)
  clear hB_
  go_wp2_with fail
  go_ret
  exact ⟨rfl, hB2.out⟩
theorem Hold_nil (i k : Int) (w : World) (hG : GOk w) : Calls Tryz.prog 22 #[.pointer none, .int .i64 i, .int .i64 k] w fun e w' => e = .returned (.int .i64 1) ∧ Below w.heap.size w w' := by
  have hGG := Lib.hid hG
  clear hG
  go_enter Tryz.func22, Tryz.ntmps22
  go_wp2_with fail
  refine (at_nil i _).mono ?_
  rintro e w1 ⟨T, b, rfl, hE_, hB_⟩
  have hE := Lib.hid hE_
  have hB := Lib.hid hB_
  clear hE_ hB_
  go_wp2_with fail
  have hX := hB.out
  refine (code_err _ 1 _ hE.out (hGG.out.below hX)).mono ?_
  rintro e w2 ⟨rfl, hB_⟩
  have hB2 := Lib.hid (bnext hX hB_)
  clear hB_
  go_wp2_with fail
  go_ret
  exact ⟨rfl, hB2.out⟩
theorem Spoil_nil (i k : Int) (w : World) (hG : GOk w) : Calls Tryz.prog 23 #[.pointer none, .int .i64 i, .int .i64 k] w fun e w' => e = .returned (.int .i64 1) ∧ Below w.heap.size w w' := by
  have hGG := Lib.hid hG
  clear hG
  go_enter Tryz.func23, Tryz.ntmps23
  go_wp2_with fail
  refine (at_nil i _).mono ?_
  rintro e w1 ⟨T, b, rfl, hE_, hB_⟩
  have hE := Lib.hid hE_
  have hB := Lib.hid hB_
  clear hE_ hB_
  go_wp2_with fail
  have hX := hB.out
  refine (code_err _ 1 _ hE.out (hGG.out.below hX)).mono ?_
  rintro e w2 ⟨rfl, hB_⟩
  have hB2 := Lib.hid (bnext hX hB_)
  clear hB_
  go_wp2_with fail
  go_ret
  exact ⟨rfl, hB2.out⟩
theorem Part_nil (i : Int) (w : World) (hG : GOk w) : Calls Tryz.prog 28 #[.pointer none, .int .i64 i] w fun e w' => e = .returned (.int .i64 1) ∧ Below w.heap.size w w' := by
  have hGG := Lib.hid hG
  clear hG
  go_enter Tryz.func28, Tryz.ntmps28
  go_wp2_with fail
  refine (site_nil i _).mono ?_
  rintro e w1 ⟨T, b, rfl, hE_, hB_⟩
  have hE := Lib.hid hE_
  have hB := Lib.hid hB_
  clear hE_ hB_
  go_wp2_with fail
  have hX := hB.out
  refine (code_err _ 1 _ hE.out (hGG.out.below hX)).mono ?_
  rintro e w2 ⟨rfl, hB_⟩
  have hB2 := Lib.hid (bnext hX hB_)
  clear hB_
  go_wp2_with fail
  go_ret
  exact ⟨rfl, hB2.out⟩
theorem Heal_nil (i : Int) (w : World) (hG : GOk w) : Calls Tryz.prog 29 #[.pointer none, .int .i64 i] w fun e w' => e = .returned (.int .i64 1) ∧ Below w.heap.size w w' := by
  have hGG := Lib.hid hG
  clear hG
  go_enter Tryz.func29, Tryz.ntmps29
  go_wp2_with fail
  refine (site_nil i _).mono ?_
  rintro e w1 ⟨T, b, rfl, hE_, hB_⟩
  have hE := Lib.hid hE_
  have hB := Lib.hid hB_
  clear hE_ hB_
  go_wp2_with fail
  have hX := hB.out
  refine (code_err _ 1 _ hE.out (hGG.out.below hX)).mono ?_
  rintro e w2 ⟨rfl, hB_⟩
  have hB2 := Lib.hid (bnext hX hB_)
  clear hB_
  go_wp2_with fail
  go_ret
  exact ⟨rfl, hB2.out⟩
theorem Len_nil (w : World) : Calls Tryz.prog 14 #[.pointer none] w fun e w' => e = .returned (.int .i64 0) ∧ w' = w := by
  go_enter Tryz.func14, Tryz.ntmps14
  go_wp2_with fail
  go_ret
  exact ⟨rfl, rfl⟩
theorem Parted_nil (w : World) : Calls Tryz.prog 31 #[.pointer none] w fun e w' => e = .returned (.slice none 0 0) ∧ w' = w := by
  go_enter Tryz.func31, Tryz.ntmps31
  go_wp2_with fail
  go_ret
  exact ⟨rfl, rfl⟩
theorem Packet_nil (i : Int) (w : World) : Calls Tryz.prog 18 #[.pointer none, .int .i64 i] w fun e w' => e = .returned (.slice none 0 0) ∧ Below w.heap.size w w' := by
  go_enter Tryz.func18, Tryz.ntmps18
  go_wp2_with fail
  refine (at_nil i _).mono ?_
  rintro e w1 ⟨T, b, rfl, hE_, hB_⟩
  have hB := Lib.hid hB_
  clear hE_ hB_
  go_wp2_with fail
  go_ret
  exact ⟨rfl, hB.out⟩
theorem Waits_nil (i : Int) (w : World) : Calls Tryz.prog 30 #[.pointer none, .int .i64 i] w fun e w' => e = .returned (.int .i64 0) ∧ Below w.heap.size w w' := by
  go_enter Tryz.func30, Tryz.ntmps30
  go_wp2_with fail
  refine (at_nil i _).mono ?_
  rintro e w1 ⟨T, b, rfl, hE_, hB_⟩
  have hB := Lib.hid hB_
  clear hE_ hB_
  go_wp2_with fail
  go_ret
  exact ⟨rfl, hB.out⟩
theorem Send_nil (v : Value) (w : World) : Calls Tryz.prog 9 #[.pointer none, v] w fun e w' => e = .returned (.int .i64 0) ∧ w' = w := by
  go_enter Tryz.func9, Tryz.ntmps9
  go_wp2_with fail
  go_ret
  exact ⟨rfl, rfl⟩
theorem Tick_nil (w : World) : Calls Tryz.prog 24 #[.pointer none] w fun e w' => e = .returned (.tuple #[]) ∧ w' = w := by
  go_enter Tryz.func24, Tryz.ntmps24
  go_wp2_with fail
  refine bodyPost_ret (v := .tuple #[]) ?_ rfl ⟨rfl, rfl⟩
  simp [results, Tryz.results24, go_sem]
end Go.Proofs.YteeiacfddjhhkaaGreatDoor
namespace Go.Proofs.YteeiacfddjhhkaaGreatDoor
open Go.RowKit
set_option maxRecDepth 100000
variable {cz : Cuts}

set_option maxHeartbeats 1000000 in
theorem Deliver_nil (i : Int) (w : World) (hG : GOk w) : Calls Tryz.prog 11 #[.pointer none, .int .i64 i] w fun e w' => e = .returned (.tuple #[zeroV, .int .i64 1]) ∧ Below w.heap.size w w' := by
  have hGG := Lib.hid hG
  have h0 := Lib.hid (heap_alloc_new w (.cells #[.int .i64 0, .int .i64 0, .int .i64 0, .int .i64 0, .int .i64 0, .int .i64 0, .int .i64 0, .int .i64 0, .int .i64 0, .slice none 0 0, .slice none 0 0] 37))
  have hB0 := Lib.hid (below_alloc (Below.refl _ w) (.cells #[.int .i64 0, .int .i64 0, .int .i64 0, .int .i64 0, .int .i64 0, .int .i64 0, .int .i64 0, .int .i64 0, .int .i64 0, .slice none 0 0, .slice none 0 0] 37))
  clear hG
  go_enter Tryz.func11, Tryz.ntmps11
  go_wp2_with fail
  generalize w.alloc (.cells #[.int .i64 0, .int .i64 0, .int .i64 0, .int .i64 0, .int .i64 0, .int .i64 0, .int .i64 0, .int .i64 0, .int .i64 0, .slice none 0 0, .slice none 0 0] 37) = W0 at *
  refine (at_nil i _).mono ?_
  rintro e w1 ⟨T, b, rfl, hE_, hB_⟩
  have hE := Lib.hid hE_
  have hB1 := Lib.hid hB_
  clear hE_ hB_
  go_wp2_with fail
  refine (code_err _ 1 _ hE.out ((hGG.out.below hB0.out).below hB1.out)).mono ?_
  rintro e w2 ⟨rfl, hB_⟩
  have hB := Lib.hid (bnext hB0.out (bnext hB1.out hB_))
  have hb := block_below (bnext hB1.out hB_) h0.out
  obtain ⟨x0, x1, x2, x3, x4, x5, x6, x7, x8, x9, x10⟩ := msg_cells hb
  obtain ⟨f0, f1, f2, f3, f4, f5, f6, f7, f8, f9, f10⟩ := msg_free hb
  obtain ⟨w2F, hch_, hs10_, hK⟩ := msg_stored hb (.int .i64 0) (.int .i64 0) (.int .i64 0) (.int .i64 0) (.int .i64 0) (.int .i64 0) (.int .i64 0) (.int .i64 0) (.int .i64 0) (.slice none 0 0) (.slice none 0 0)
  have hCH := Lib.hid hch_
  have hs10H := Lib.hid hs10_
  clear hch_ hs10_
  have hEnd := Lib.hid (kept_below hB.out hK (by rintro _ rfl; exact Nat.le_refl _))
  have hb2 := Lib.hid hb
  clear hB_ hK hb
  go_wp2_with fail
  have hb := hb2.out
  clear x0 f0 x1 f1 x2 f2 x3 f3 x4 f4 x5 f5 x6 f6 x7 f7 x8 f8 x9 f9 x10 f10

  rw [hCH.out]
  have hs10 := hs10H.out
  have hWF := hs10
  clear hs10 hb
  obtain ⟨zx0, zx1, zx2, zx3, zx4, zx5, zx6, zx7, zx8, zx9, zx10⟩ := msg_cells hWF
  obtain ⟨zf0, zf1, zf2, zf3, zf4, zf5, zf6, zf7, zf8, zf9, zf10⟩ := msg_free hWF
  clear hWF
  go_wp2_with fail
  refine bodyPost_ret (v := .tuple #[zeroV, .int .i64 1]) ?_ rfl ⟨rfl, hEnd.out⟩
  simp [results, Tryz.results11, go_sem, zeroV, *]
set_option maxHeartbeats 1000000 in
theorem Deliver_none (p : Nat) (most : Int) (ks : List PK) (i : Int) (w : World) (hG : GOk w) (h : NetAt cz w p most ks) (hi : i < 0 ∨ (ks.length : Int) ≤ i) : Calls Tryz.prog 11 #[.pointer (some ⟨p, 0, none⟩), .int .i64 i] w fun e w' => e = .returned (.tuple #[zeroV, .int .i64 3]) ∧ Below w.heap.size w w' := by
  have hGG := Lib.hid hG
  have hN := Lib.hid h
  clear h
  have h0 := Lib.hid (heap_alloc_new w (.cells #[.int .i64 0, .int .i64 0, .int .i64 0, .int .i64 0, .int .i64 0, .int .i64 0, .int .i64 0, .int .i64 0, .int .i64 0, .slice none 0 0, .slice none 0 0] 37))
  have hB0 := Lib.hid (below_alloc (Below.refl _ w) (.cells #[.int .i64 0, .int .i64 0, .int .i64 0, .int .i64 0, .int .i64 0, .int .i64 0, .int .i64 0, .int .i64 0, .int .i64 0, .slice none 0 0, .slice none 0 0] 37))
  clear hG
  go_enter Tryz.func11, Tryz.ntmps11
  go_wp2_with fail
  generalize w.alloc (.cells #[.int .i64 0, .int .i64 0, .int .i64 0, .int .i64 0, .int .i64 0, .int .i64 0, .int .i64 0, .int .i64 0, .int .i64 0, .slice none 0 0, .slice none 0 0] 37) = W0 at *
  refine (at_none p most ks i _ (hN.out.later hB0.out) hi).mono ?_
  rintro e w1 ⟨T, b, rfl, hE_, hB_⟩
  have hE := Lib.hid hE_
  have hB1 := Lib.hid hB_
  clear hE_ hB_
  go_wp2_with fail
  refine (code_err _ 3 _ hE.out ((hGG.out.below hB0.out).below hB1.out)).mono ?_
  rintro e w2 ⟨rfl, hB_⟩
  have hB := Lib.hid (bnext hB0.out (bnext hB1.out hB_))
  have hb := block_below (bnext hB1.out hB_) h0.out
  obtain ⟨x0, x1, x2, x3, x4, x5, x6, x7, x8, x9, x10⟩ := msg_cells hb
  obtain ⟨f0, f1, f2, f3, f4, f5, f6, f7, f8, f9, f10⟩ := msg_free hb
  obtain ⟨w2F, hch_, hs10_, hK⟩ := msg_stored hb (.int .i64 0) (.int .i64 0) (.int .i64 0) (.int .i64 0) (.int .i64 0) (.int .i64 0) (.int .i64 0) (.int .i64 0) (.int .i64 0) (.slice none 0 0) (.slice none 0 0)
  have hCH := Lib.hid hch_
  have hs10H := Lib.hid hs10_
  clear hch_ hs10_
  have hEnd := Lib.hid (kept_below hB.out hK (by rintro _ rfl; exact Nat.le_refl _))
  have hb2 := Lib.hid hb
  clear hB_ hK hb
  go_wp2_with fail
  have hb := hb2.out
  clear x0 f0 x1 f1 x2 f2 x3 f3 x4 f4 x5 f5 x6 f6 x7 f7 x8 f8 x9 f9 x10 f10

  rw [hCH.out]
  have hs10 := hs10H.out
  have hWF := hs10
  clear hs10 hb
  obtain ⟨zx0, zx1, zx2, zx3, zx4, zx5, zx6, zx7, zx8, zx9, zx10⟩ := msg_cells hWF
  obtain ⟨zf0, zf1, zf2, zf3, zf4, zf5, zf6, zf7, zf8, zf9, zf10⟩ := msg_free hWF
  clear hWF
  go_wp2_with fail
  refine bodyPost_ret (v := .tuple #[zeroV, .int .i64 3]) ?_ rfl ⟨rfl, hEnd.out⟩
  simp [results, Tryz.results11, go_sem, zeroV, *]
end Go.Proofs.YteeiacfddjhhkaaGreatDoor
namespace Go.Proofs.YteeiacfddjhhkaaGreatDoor
open Go.RowKit
set_option maxRecDepth 100000
variable {cz : Cuts}

theorem pksC_cons (v : Value) (vs : List Value) (k : PK) (ks : List PK) : pksC (v :: vs) (k :: ks) = v :: .int .i64 k.site :: .int .i64 k.waits :: pksC vs ks := rfl
theorem pksC_get : ∀ (vs : List Value) (ks : List PK) (i : Nat) (v : Value) (k : PK), vs[i]? = some v → ks[i]? = some k → (pksC vs ks)[i * 3]? = some v ∧ (pksC vs ks)[i * 3 + 1]? = some (.int .i64 k.site) ∧ (pksC vs ks)[i * 3 + 2]? = some (.int .i64 k.waits)
  | [], _, i, v, k, h, _ => by simp at h
  | _ :: _, [], i, v, k, _, h => by simp at h
  | v0 :: vs, k0 :: ks, 0, v, k, hv, hk => by
    simp at hv hk
    subst hv hk
    rw [pksC_cons]
    exact ⟨rfl, rfl, rfl⟩
  | v0 :: vs, k0 :: ks, i + 1, v, k, hv, hk => by
    simp at hv hk
    have h := pksC_get vs ks i v k hv hk
    rw [pksC_cons]
    have e : (i + 1) * 3 = i * 3 + 3 := by omega
    rw [e]
    exact h
theorem pksC_wait : ∀ (vs : List Value) (ks : List PK) (i : Nat) (k : PK) (t : Int), vs.length = ks.length → ks[i]? = some k → (pksC vs ks).set (i * 3 + 2) (.int .i64 t) = pksC vs (ks.set i { k with waits := t })
  | [], [], i, k, t, _, h => by simp at h
  | [], _ :: _, i, k, t, h, _ => by simp at h
  | _ :: _, [], i, k, t, h, _ => by simp at h
  | v0 :: vs, k0 :: ks, 0, k, t, hl, hk => by
    simp at hk
    subst hk
    rfl
  | v0 :: vs, k0 :: ks, i + 1, k, t, hl, hk => by
    simp at hk hl
    have h := pksC_wait vs ks i k t hl hk
    rw [List.set_cons_succ, pksC_cons, pksC_cons, ← h]
    have e : (i + 1) * 3 + 2 = i * 3 + 2 + 3 := by omega
    rw [e]
    rfl
theorem Len_net (p : Nat) (most : Int) (ks : List PK) (w : World) (h : NetAt cz w p most ks) :
    Calls Tryz.prog 14 #[.pointer (some ⟨p, 0, none⟩)] w fun e w' => e = .returned (.int .i64 ks.length) ∧ w' = w := by
  obtain ⟨A, c, mb, mk, vs, hb, _⟩ := h
  have x1 : w.cell? ⟨p, 1, none⟩ = some (.slice A ks.length c) := by rw [block_cell hb]; rfl
  clear hb
  go_enter Tryz.func14, Tryz.ntmps14
  go_wp2_with fail
  go_ret
  exact ⟨rfl, rfl⟩
/-- A store into the packets' row. -/
theorem NetAt.waits {w : World} {p : Nat} {most : Int} {ks : List PK} {g c mb : Nat} {mk : MapIs cz} {vs : List Value} {i : Nat} {k : PK} {t : Int}
    (h1 : w.heap[p]? = some (.cells #[.int .i64 most, .slice (some ⟨g, 0, none⟩) ks.length c, .map (some mb)] 71 (0, 0))) (h2 : w.heap[mb]? = some (.map mk.es mk.ck)) (h3 : mb + 1 = p) (h4 : w.ownsRow (p + 1) 77 3 (.slice (some ⟨g, 0, none⟩) ks.length c) ks.length (pksC vs ks)) (h5 : vs.length = ks.length)
    (h6 : ∀ (i : Nat) (v : Value) (k : PK), vs[i]? = some v → ks[i]? = some k → OB w (p + 1) v k.b ∧ k.b.length ≤ 100000 ∧ 0 ≤ k.waits ∧ k.waits ≤ 1000) (hk : ks[i]? = some k) (ht : 0 ≤ t ∧ t ≤ 1000) :
    NetAt cz (w.setCell ⟨g, i * 3 + 2, none⟩ (.int .i64 t)) p most (ks.set i { k with waits := t }) ∧ Kept (NS w p) w (w.setCell ⟨g, i * 3 + 2, none⟩ (.int .i64 t)) := by
  have hg := own_ge h4 g rfl
  obtain ⟨ho, hgr⟩ := h4.stored (i * 3 + 2) (.int .i64 t)
  rw [pksC_wait vs ks i k t h5 hk] at ho
  have hfar : ∀ j, j ≠ g → (w.setCell ⟨g, i * 3 + 2, none⟩ (.int .i64 t)).heap[j]? = w.heap[j]? := fun j hj => Below.heap_setCell _ _ _ _ (by simpa using hj)
  have hrow : ∃ cur, w.heap[g]? = some (.cells cur 77 (0, 0)) := by
    rcases h4.2 with ⟨h', _⟩ | ⟨g', cap', cur, h', _, hg', _⟩
    · simp at h'
    · simp only [Value.slice.injEq, Option.some.injEq, Addr.mk.injEq, and_true, true_and] at h'
      obtain ⟨rfl, rfl⟩ := h'
      exact ⟨cur, hg'⟩
  obtain ⟨cur, hcur⟩ := hrow
  refine ⟨⟨some ⟨g, 0, none⟩, c, mb, mk, vs, ?_, ?_, h3, ?_, ?_, ?_⟩, ?_⟩
  · rw [List.length_set, hfar p (by omega)]; exact h1
  · rw [hfar mb (by omega)]; exact h2
  · rw [List.length_set]; exact ho
  · rw [List.length_set]; exact h5
  · intro j v k' hv hk'
    have hmove : ∀ (b : List UInt8), OB w (p + 1) v b → OB (w.setCell ⟨g, i * 3 + 2, none⟩ (.int .i64 t)) (p + 1) v b := fun b hb => own_move hb fun q hq => hfar q (by
      rintro rfl
      rcases hb.2 with ⟨rfl, _⟩ | ⟨g', cap', cur', rfl, _, hg', _⟩
      · simp [Value.ownBlock] at hq
      · simp [Value.ownBlock] at hq
        subst hq
        rw [hcur] at hg'
        simp at hg')
    rw [List.getElem?_set] at hk'
    split at hk'
    · rename_i hij
      subst hij
      split at hk'
      · simp at hk'
        subst hk'
        obtain ⟨a1, a2, a3, a4⟩ := h6 i v k hv hk
        exact ⟨hmove _ a1, a2, ht.1, ht.2⟩
      · simp at hk'
    · obtain ⟨a1, a2, a3, a4⟩ := h6 j v k' hv hk'
      exact ⟨hmove _ a1, a2, a3, a4⟩
  · exact Kept.setCell (S := NS w p) (p := ⟨g, i * 3 + 2, none⟩) (Kept.refl _ _) (.inl ⟨by show p ≤ g; omega, cur, _, _, hcur, .inl rfl⟩) _
theorem Hold_ok (p : Nat) (most : Int) (ks : List PK) (i : Nat) (k : PK) (t : Int) (w : World) (h : NetAt cz w p most ks) (hk : ks[i]? = some k) (ht : 0 ≤ t ∧ t ≤ 1000) :
    Calls Tryz.prog 22 #[.pointer (some ⟨p, 0, none⟩), .int .i64 i, .int .i64 t] w fun e w' => e = .returned (.int .i64 0) ∧ NetAt cz w' p most (ks.set i { k with waits := t }) ∧ Kept (NS w p) w w' := by
  have hi : i < ks.length := (List.getElem?_eq_some_iff.1 hk).1
  have hN := Lib.hid h
  obtain ⟨A, c, mb, mk, vs, h1, h2, h3, h4, h5, h6⟩ := h
  obtain ⟨g, cap, hA⟩ : ∃ g cap, Value.slice A ks.length c = .slice (some ⟨g, 0, none⟩) ks.length cap := by
    rcases h4.2 with ⟨_, h'⟩ | ⟨g', cap', cur, h', _⟩
    · omega
    · exact ⟨g', cap', h'⟩
  cases hA
  have hv : vs[i]? = some vs[i] := List.getElem?_eq_getElem (by omega)
  have hend := Lib.hid (NetAt.waits (t := t) h1 h2 h3 h4 h5 h6 hk ht)
  have x1 : w.cell? ⟨p, 1, none⟩ = some (.slice (some ⟨g, 0, none⟩) ks.length c) := by rw [block_cell h1]; rfl
  have y2 : w.cell? ⟨g, i * 3 + 2, none⟩ = some (.int .i64 k.waits) := by rw [h4.cellAt _ (by omega)]; exact (pksC_get vs ks i _ k hv hk).2.2
  have z2 : w.frozen? ⟨g, i * 3 + 2, none⟩ = false := h4.frozenAt _
  have d1 : decide (t < 0) = false := by simp; omega
  have d2 : decide (1000 < t) = false := by simp; omega
  clear h1 h2 h3 h4 h5 h6 hk hv
  go_enter Tryz.func22, Tryz.ntmps22
  go_wp2_with fail
  refine (at_ok p most ks i _ hN.out hi).mono ?_
  rintro e w1 ⟨rfl, rfl⟩
  go_wp2_with fail
  go_ret
  exact ⟨rfl, hend.out.1, hend.out.2⟩
end Go.Proofs.YteeiacfddjhhkaaGreatDoor
namespace Go.Proofs.YteeiacfddjhhkaaGreatDoor
open Go.RowKit
set_option maxRecDepth 100000
variable {cz : Cuts}

def tickK (k : PK) : PK := { k with waits := max (k.waits - 1) 0 }
def tickN (ks : List PK) (n : Nat) : List PK := (ks.take n).map tickK ++ ks.drop n
theorem tickN_len (ks : List PK) (n : Nat) : (tickN ks n).length = ks.length := by simp [tickN]; omega
theorem tickN_at (ks : List PK) (n : Nat) : (tickN ks n)[n]? = ks[n]? := by
  unfold tickN
  by_cases h : n ≤ ks.length
  · rw [List.getElem?_append_right (by simp [h])]
    simp [Nat.min_eq_left h]
  · rw [List.getElem?_eq_none (by simp; omega), List.getElem?_eq_none (by omega)]
theorem tickN_succ (ks : List PK) (n : Nat) (k : PK) (h : ks[n]? = some k) : tickN ks (n + 1) = (tickN ks n).set n (tickK k) := by
  obtain ⟨hn, e⟩ := List.getElem?_eq_some_iff.1 h
  unfold tickN
  rw [List.set_append_right _ _ (by simp; omega), List.take_succ_eq_append_getElem hn, List.map_append, List.drop_eq_getElem_cons hn, e]
  simp [Nat.min_eq_left (Nat.le_of_lt hn)]
theorem KeptN_trans {p : Nat} {a b c : World} (h : Kept (NS a p) a b) (k : Kept (NS b p) b c) : Kept (NS a p) a c :=
  h.trans k fun j hj hS => by
    by_cases hn : NS a p j
    · exact hn
    · obtain ⟨hp, cur, T, fr, hb, hT⟩ := hS
      exact ⟨hp, cur, T, fr, (h.block j hj hn).symm.trans hb, hT⟩
theorem Tick_net (p : Nat) (most : Int) (ks : List PK) (w : World) (h : NetAt cz w p most ks) (hl : ks.length ≤ 100000) :
    Calls Tryz.prog 24 #[.pointer (some ⟨p, 0, none⟩)] w fun e w' => e = .returned (.tuple #[]) ∧ NetAt cz w' p most (tickN ks ks.length) ∧ Kept (NS w p) w w' := by
  have hN := Lib.hid h
  obtain ⟨A, c, mb, mk, vs, h1, _⟩ := h
  have x1 : w.cell? ⟨p, 1, none⟩ = some (.slice A ks.length c) := by rw [block_cell h1]; rfl
  clear h1
  go_enter Tryz.func24, Tryz.ntmps24
  go_wp2_with fail
  go_loopw [2, 10] (fun _ i wr => ∃ k : Nat, k ≤ ks.length ∧ i = .int .i64 k ∧ NetAt cz wr p most (tickN ks k) ∧ Kept (NS w p) w wr) (fun _ i _ => ks.length - (intOf i).toNat)
  case atStart => exact ⟨0, by omega, rfl, by simpa [tickN] using hN.out, Kept.refl _ _⟩
  case round =>
    obtain ⟨n, hn, rfl, hN_, hK_⟩ := hrel
    by_cases hlt : n < ks.length
    · obtain ⟨k, hk⟩ : ∃ k, ks[n]? = some k := ⟨_, List.getElem?_eq_getElem hlt⟩
      have hK := Lib.hid hK_
      obtain ⟨A', c', mb', mk', vs', h1, h2, h3, h4, h5, h6⟩ := hN_
      obtain ⟨g, cap, hA⟩ : ∃ g cap, Value.slice A' (tickN ks n).length c' = .slice (some ⟨g, 0, none⟩) (tickN ks n).length cap := by
        rcases h4.2 with ⟨_, h'⟩ | ⟨g', cap', cur, h', _⟩
        · rw [tickN_len] at h'; omega
        · exact ⟨g', cap', h'⟩
      cases hA
      have hkt : (tickN ks n)[n]? = some k := by rw [tickN_at, hk]
      have hvl : n < vs'.length := by rw [h5, tickN_len]; exact hlt
      have hv : vs'[n]? = some vs'[n] := List.getElem?_eq_getElem hvl
      obtain ⟨_, _, hw0, hw1⟩ := h6 n _ k hv hkt
      have hend := NetAt.waits (w := wr.drew) (t := max (k.waits - 1) 0) h1 h2 h3 h4 h5 h6 hkt (by omega)
      rw [show ({ k with waits := max (k.waits - 1) 0 } : PK) = tickK k from rfl, ← tickN_succ ks n k hk] at hend
      have hEnd := Lib.hid hend
      have hlen := tickN_len ks n
      have x2 : wr.cell? ⟨p, 1, none⟩ = some (.slice (some ⟨g, 0, none⟩) ks.length c') := by rw [block_cell h1, hlen]; rfl
      have y2 : wr.cell? ⟨g, n * 3 + 2, none⟩ = some (.int .i64 k.waits) := by rw [h4.cellAt _ (by rw [hlen]; omega)]; exact (pksC_get vs' _ n _ k hv hkt).2.2
      have z2 : wr.frozen? ⟨g, n * 3 + 2, none⟩ = false := h4.frozenAt _
      clear h1 h2 h3 h4 h5 h6 hk hv hkt hend hlen hK_
      have hK2 : Hid (Kept (NS w p) w wr.drew) := Lib.hid hK.out.drew
      have y3 : wr.drew.cell? ⟨g, n * 3 + 2, none⟩ = some (.int .i64 k.waits) := y2
      have z3 : wr.drew.frozen? ⟨g, n * 3 + 2, none⟩ = false := z2
      have x3 : wr.drew.cell? ⟨p, 1, none⟩ = some (.slice (some ⟨g, 0, none⟩) ks.length c') := x2
      generalize k.waits = t at *
      go_wp2_with fail
      go_still_tail 17, (by kernel_rfl)
      change wpList _ _ _ _ _ wr.drew
      generalize wr.drew = wd at *
      have hmx : max (t - 1) 0 = (if t - 1 < 0 then 0 else t - 1) := by split <;> omega
      rw [hmx] at hEnd
      clear hmx
      go_wp2_with fail
      refine ⟨⟨n + 1, by omega, by go_num, hEnd.out.1, KeptN_trans hK2.out hEnd.out.2⟩, by simp [intOf]; omega⟩
    · have hnn : n = ks.length := by omega
      subst hnn
      have hN9 := Lib.hid hN_
      have hK9 := Lib.hid hK_
      clear hN_ hK_
      go_wp2_with fail
      refine ⟨rfl, .tuple #[], ?_, rfl, hN9.out, hK9.out⟩
      simp [results, Tryz.results24, go_sem]
end Go.Proofs.YteeiacfddjhhkaaGreatDoor
