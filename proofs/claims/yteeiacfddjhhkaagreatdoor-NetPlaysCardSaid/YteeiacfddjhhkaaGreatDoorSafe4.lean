/- octet.In over any bytes: each reader comes back, the reader stays one, what was there stays. octet.In over any bytes: nat, Nat, Num, str, Str, Err, End, Left; mess.small. ops.May at any operation; ops.Decode of any bytes comes back with operations, or none. ops.Decode of any bytes comes back with operations, or none. -/
import Derived.Test.YteeiacfddjhhkaaGreatDoorRd3
import Derived.Test.YteeiacfddjhhkaaGreatDoorOne
import Derived.Test.YteeiacfddjhhkaaGreatDoorApp
namespace Go.Proofs.YteeiacfddjhhkaaGreatDoor
open Go.RowKit
set_option maxRecDepth 100000

/-- A fault, or none. -/
def ErrV (w : World) (ev : Value) : Prop := ev = .nilIface ∨ ∃ T b e, ev = .iface T (.pointer (some ⟨b, 0, none⟩)) ∧ e ≠ 0 ∧ ErrIs w ev e
def noFault (T : TypeId) : Prop := T ≠ 122 ∧ T ≠ 119 ∧ T ≠ 141 ∧ T ≠ 204
theorem ErrIs.keptS {S : Nat → Prop} {w w' : World} {v : Value} {e : Int} (h : ErrIs w v e) (hk : Kept S w w') (hS : ∀ j, S j → ∃ cur T fr, w.heap[j]? = some (.cells cur T fr) ∧ noFault T) : ErrIs w' v e := by
  have key : ∀ (b : Nat) (cur : Array Value) (T : TypeId) (fr : Nat × Nat), w.heap[b]? = some (.cells cur T fr) → ¬ noFault T → w'.heap[b]? = some (.cells cur T fr) := fun b cur T fr hb hT =>
    (hk.block b (lt_of_block hb) (fun hs => by
      obtain ⟨cur', T', fr', hb', hT'⟩ := hS b hs
      rw [hb] at hb'
      simp only [Option.some.injEq, Obj.cells.injEq] at hb'
      obtain ⟨_, rfl, _⟩ := hb'
      exact hT hT')).trans hb
  induction h with
  | num b e h => exact .num b e (key _ _ _ _ h (fun h => h.1 rfl))
  | at_ b x p e h _ ih => exact .at_ b x p e (key _ _ _ _ h (fun h => h.2.1 rfl)) ih
  | bound b x l g e h _ ih => exact .bound b x l g e (key _ _ _ _ h (fun h => h.2.2.1 rfl)) ih
  | inn b x s e h _ ih => exact .inn b x s e (key _ _ _ _ h (fun h => h.2.2.2 rfl)) ih
theorem ErrV.keptS {S : Nat → Prop} {w w' : World} {v : Value} (h : ErrV w v) (hk : Kept S w w') (hS : ∀ j, S j → ∃ cur T fr, w.heap[j]? = some (.cells cur T fr) ∧ noFault T) : ErrV w' v := by
  rcases h with h | ⟨T, b, e, h1, h2, h3⟩
  · exact .inl h
  · exact .inr ⟨T, b, e, h1, h2, h3.keptS hk hS⟩
/-- A reader in block p, at place k of bytes, with its first fault. -/
def InC (w : World) (p : Nat) (A : Option Addr) (c : Nat) (bs : List UInt8) (k : Nat) (ev : Value) : Prop :=
  w.heap[p]? = some (.cells #[.slice A bs.length c, .int .i64 k, ev] 168 (0, 0)) ∧ RB w (.slice A bs.length c) bs ∧ (bs = [] ∨ ∀ ad, A = some ad → ad.block < p) ∧ k ≤ bs.length ∧ bs.length ≤ 100000 ∧ ErrV w ev
theorem RB.moveE {w w' : World} {A : Option Addr} {n c : Nat} {bs : List UInt8} (h : RB w (.slice A n c) bs) (hb : bs = [] ∨ ∀ ad, A = some ad → w'.heap[ad.block]? = w.heap[ad.block]?) : RB w' (.slice A n c) bs := by
  obtain ⟨A', c', he, hn, hc, hm, hr⟩ := h
  cases he
  rcases hb with rfl | hb
  · exact ⟨_, _, rfl, hn, hc, hm, RowAt.nil _ _⟩
  · exact ⟨_, _, rfl, hn, hc, hm, hr.move hb⟩
def InS (w : World) (p : Nat) : Prop := ∃ A c bs k ev, InC w p A c bs k ev
theorem InC.lt {w : World} {p : Nat} {A : Option Addr} {c : Nat} {bs : List UInt8} {k : Nat} {ev : Value} (h : InC w p A c bs k ev) : p < w.heap.size := lt_of_block h.1
theorem InS.lt {w : World} {p : Nat} (h : InS w p) : p < w.heap.size := by
  obtain ⟨A, c, bs, k, ev, h⟩ := h
  exact h.lt
theorem InC.step {w W : World} {p : Nat} {A : Option Addr} {c : Nat} {bs : List UInt8} {k k' : Nat} {ev ev' : Value} (h : InC w p A c bs k ev) (hW : W.heap[p]? = some (.cells #[.slice A bs.length c, .int .i64 k', ev'] 168 (0, 0))) (hK : Kept (· = p) w W) (hk : k' ≤ bs.length) (he : ErrV W ev') : InC W p A c bs k' ev' := by
  obtain ⟨h1, h2, h3, h4, h5, h6⟩ := h
  refine ⟨hW, h2.moveE (h3.imp id fun h3 ad hA => ?_), h3, hk, h5, he⟩
  have := h3 ad hA
  exact hK.block _ (by have := lt_of_block h1; omega) (by omega)
theorem InC.kept {S : Nat → Prop} {w W : World} {p : Nat} {A : Option Addr} {c : Nat} {bs : List UInt8} {k : Nat} {ev : Value} (h : InC w p A c bs k ev) (hK : Kept S w W) (hS : ∀ j, S j → p < j ∧ ∃ cur T fr, w.heap[j]? = some (.cells cur T fr) ∧ noFault T) : InC W p A c bs k ev := by
  obtain ⟨h1, h2, h3, h4, h5, h6⟩ := h
  have hp := lt_of_block h1
  refine ⟨(hK.block p hp (fun hs => by have := (hS p hs).1; omega)).trans h1, h2.moveE (h3.imp id fun h3 ad hA => ?_), h3, h4, h5, h6.keptS hK (fun j hj => (hS j hj).2)⟩
  have := h3 ad hA
  exact hK.block _ (by omega) (fun hs => by have := (hS _ hs).1; omega)
theorem InS.kept {S : Nat → Prop} {w W : World} {p : Nat} (h : InS w p) (hK : Kept S w W) (hS : ∀ j, S j → p < j ∧ ∃ cur T fr, w.heap[j]? = some (.cells cur T fr) ∧ noFault T) : InS W p := by
  obtain ⟨A, c, bs, k, ev, h⟩ := h
  exact ⟨A, c, bs, k, ev, h.kept hK hS⟩
theorem InC.later {w W : World} {p : Nat} {A : Option Addr} {c : Nat} {bs : List UInt8} {k : Nat} {ev : Value} (h : InC w p A c bs k ev) (hb : Below w.heap.size w W) : InC W p A c bs k ev :=
  h.kept (Kept.of_below (fun _ => False) hb) (fun _ h => h.elim)
theorem InS.later {w W : World} {p : Nat} (h : InS w p) (hb : Below w.heap.size w W) : InS W p := by
  obtain ⟨A, c, bs, k, ev, h⟩ := h
  exact ⟨A, c, bs, k, ev, h.later hb⟩
theorem InC.noF {w : World} {p : Nat} {A : Option Addr} {c : Nat} {bs : List UInt8} {k : Nat} {ev : Value} (h : InC w p A c bs k ev) : ∀ j, j = p → ∃ cur T fr, w.heap[j]? = some (.cells cur T fr) ∧ noFault T := by
  rintro _ rfl
  exact ⟨_, _, _, h.1, by decide, by decide, by decide, by decide⟩
/-- A call of the reader's that may fail. -/
def ReadS (w : World) (p : Nat) (w' : World) : Prop := InS w' p ∧ Kept (· = p) w w'

theorem of_s (v : Value) (bs : List UInt8) (w : World) (h : RB w v bs) (hl : bs.length ≤ 100000) :
    Calls Tryz.prog 66 #[v] w fun e w' => ∃ p, e = .returned (.pointer (some ⟨p, 0, none⟩)) ∧ InS w' p ∧ w.heap.size ≤ p ∧ Below w.heap.size w w' := by
  obtain ⟨A, c, rfl, hn, hc, hm, hr⟩ := id h
  have hR := Lib.hid h
  have hlt : Hid (bs = [] ∨ ∀ ad, A = some ad → ad.block < w.heap.size) := Lib.hid (by
    by_cases hb : bs = []
    · exact .inl hb
    · refine .inr fun ad hA => ?_
      subst hA
      exact hr.lt (fun h => hb (by have := congrArg List.length h; rw [u8s_length] at this; exact List.eq_nil_of_length_eq_zero this)))
  clear h hr hn
  go_enter Tryz.func66, Tryz.ntmps66
  go_wp2_with fail
  go_ret
  refine ⟨_, rfl, ⟨A, c, bs, 0, .nilIface, heap_alloc_new w _, hR.out.below (below_alloc (Below.refl _ _) _), hlt.out, Nat.zero_le _, hl, .inl rfl⟩, Nat.le_refl _, below_alloc (Below.refl _ _) _⟩
theorem bad_s (p : Nat) (A : Option Addr) (c : Nat) (bs : List UInt8) (k : Nat) (ev : Value) (w : World) (h : InC w p A c bs k ev) :
    Calls Tryz.prog 91 #[.pointer (some ⟨p, 0, none⟩)] w fun e w' => (e = .returned (.bool false) ∧ ev = .nilIface ∨ e = .returned (.bool true) ∧ ev ≠ .nilIface) ∧ w' = w := by
  obtain ⟨hb, _, _, _, _, he⟩ := h
  rcases he with rfl | ⟨T, b, e, rfl, _⟩
  · have x2 : w.cell? ⟨p, 2, none⟩ = some .nilIface := by rw [block_cell hb]; rfl
    clear hb
    go_enter Tryz.func91, Tryz.ntmps91
    go_wp2_with fail
    go_ret
    exact ⟨.inl ⟨rfl, trivial⟩, rfl⟩
  · have x2 : w.cell? ⟨p, 2, none⟩ = some (.iface T (.pointer (some ⟨b, 0, none⟩))) := by rw [block_cell hb]; rfl
    clear hb
    go_enter Tryz.func91, Tryz.ntmps91
    go_wp2_with fail
    go_ret
    exact ⟨.inr ⟨rfl, by simp⟩, rfl⟩
theorem fail_b (p : Nat) (A : Option Addr) (c : Nat) (bs : List UInt8) (k : Nat) (fr : Nat) (x : Int) (w : World) (h : InC w p A c bs k .nilIface) (hf : fr ≤ bs.length) (hx : x ≠ 0) :
    Calls Tryz.prog 93 #[.pointer (some ⟨p, 0, none⟩), .int .i64 fr, .int .i64 x] w fun e w' => e = .returned (.tuple #[]) ∧ Kept (· = p) w w' ∧ ∃ ev, ev ≠ .nilIface ∧ InC w' p A c bs fr ev := by
  have hI := Lib.hid h
  have x2 : w.cell? ⟨p, 2, none⟩ = some .nilIface := by rw [block_cell h.1]; rfl
  clear h
  go_enter Tryz.func93, Tryz.ntmps93
  go_wp2_with fail
  refine (new_err x hx _).mono ?_
  rintro e w1 ⟨T, b, rfl, hE_, hB_⟩
  have hE := Lib.hid hE_
  have hB1 := Lib.hid hB_
  clear hE_ hB_
  go_wp2_with fail
  refine (at_any fr _ x _ hE.out).mono ?_
  rintro e w2 ⟨T2, b2, rfl, hE_, hB_⟩
  have hE2 := Lib.hid hE_
  have hB2 := Lib.hid (bnext hB1.out hB_)
  clear hE_ hB_
  have hI2 := Lib.hid (hI.out.later hB2.out)
  have y2 : w2.cell? ⟨p, 2, none⟩ = some .nilIface := by rw [block_cell hI2.out.1]; rfl
  have f2 : w2.frozen? ⟨p, 2, none⟩ = false := block_free hI2.out.1 2
  have y1 : w2.cell? ⟨p, 1, none⟩ = some (.int .i64 k) := by rw [block_cell hI2.out.1]; rfl
  have f1 : w2.frozen? ⟨p, 1, none⟩ = false := block_free hI2.out.1 1
  have hK2 := Lib.hid (Kept.setCell (S := (· = p)) (p := ⟨p, 1, none⟩) (Kept.setCell (S := (· = p)) (p := ⟨p, 2, none⟩) (Kept.refl _ w2) (.inl rfl) (.iface T2 (.pointer (some ⟨b2, 0, none⟩)))) (.inl rfl) (.int .i64 fr))
  have hW : ((w2.setCell ⟨p, 2, none⟩ (.iface T2 (.pointer (some ⟨b2, 0, none⟩)))).setCell ⟨p, 1, none⟩ (.int .i64 fr)).heap[p]? = some (.cells #[.slice A bs.length c, .int .i64 fr, .iface T2 (.pointer (some ⟨b2, 0, none⟩))] 168 (0, 0)) := by
    rw [block_setCell (block_setCell hI2.out.1 2 _) 1]
    rfl
  have hEnd := Lib.hid (hI2.out.step hW hK2.out hf (.inr ⟨T2, b2, x, rfl, hx, hE2.out.keptS hK2.out hI2.out.noF⟩))
  have hKe := Lib.hid ((Kept.of_below (· = p) hB2.out).trans hK2.out (fun _ _ h => h))
  clear hW hf
  go_wp2_with fail
  refine ⟨rfl, .tuple #[], ?_, rfl, hKe.out, _, by simp, hEnd.out⟩
  simp [results, Tryz.results93, go_sem]
theorem fail_s (p : Nat) (A : Option Addr) (c : Nat) (bs : List UInt8) (k : Nat) (fr : Nat) (x : Int) (w : World) (h : InC w p A c bs k .nilIface) (hf : fr ≤ bs.length) (hx : x ≠ 0) :
    Calls Tryz.prog 93 #[.pointer (some ⟨p, 0, none⟩), .int .i64 fr, .int .i64 x] w fun e w' => e = .returned (.tuple #[]) ∧ ReadS w p w' :=
  (fail_b p A c bs k fr x w h hf hx).mono fun e w' ⟨h1, h2, ev, _, h3⟩ => ⟨h1, ⟨_, _, _, _, _, h3⟩, h2⟩
def RawRet (w : World) (p : Nat) (A : Option Addr) (c : Nat) (bs : List UInt8) (n : Nat) (e : Ending) (w' : World) : Prop :=
  ((∃ A' c' a, e = .returned (.tuple #[.slice A' n c', .bool true]) ∧ a.length = n ∧ n ≤ 100000 ∧ RB w' (.slice A' n c') a) ∨ e = .returned (.tuple #[.slice none 0 0, .bool false])) ∧ (∃ k', InC w' p A c bs k' .nilIface) ∧ Kept (· = p) w w'
theorem raw_s (n : Nat) (p : Nat) (A : Option Addr) (c : Nat) (bs : List UInt8) (k : Nat) (w : World) (h : InC w p A c bs k .nilIface) (hn : n < 18446744073709551616) :
    Calls Tryz.prog 125 #[.pointer (some ⟨p, 0, none⟩), .int .u64 n] w (RawRet w p A c bs n) := by
  have hI := Lib.hid h
  obtain ⟨hb, hR_, hlt, hk, hl, _⟩ := id h
  obtain ⟨A', c', he, hnil, hc, hm, hrow⟩ := id hR_
  cases he
  have x0 : w.cell? ⟨p, 0, none⟩ = some (.slice A bs.length c) := by rw [block_cell hb]; rfl
  have x1 : w.cell? ⟨p, 1, none⟩ = some (.int .i64 k) := by rw [block_cell hb]; rfl
  have f1 : w.frozen? ⟨p, 1, none⟩ = false := block_free hb 1
  have w1 : IntKind.u64.wrap ((bs.length : Int) - k) = (bs.length : Int) - k := by rw [IntKind.wrap_u64]; omega
  have w0 : IntKind.i64.wrap ((bs.length : Int) - k) = (bs.length : Int) - k := by rw [IntKind.wrap_i64]; omega
  have hRR := Lib.hid hR_
  by_cases hfit : (n : Int) > (bs.length : Int) - k
  · have d1 : decide ((n : Int) > (bs.length : Int) - k) = true := by simpa using hfit
    clear h hb hR_ hrow
    go_enter Tryz.func125, Tryz.ntmps125
    go_wp2_with fail
    go_quiet (fail)
    go_wp2_with fail
    refine bodyPost_ret (v := .tuple #[.slice none 0 0, .bool false]) ?_ rfl ⟨.inr rfl, ⟨k, hI.out.later (below_drewN (Below.refl _ _) _)⟩, (Kept.refl _ w).drewN _⟩
    simp [results, Tryz.results125, go_sem]
  · have hnk : k + n ≤ bs.length := by omega
    have w4 : IntKind.i64.wrap ((k : Int) + n) = (k : Int) + n := by rw [IntKind.wrap_i64]; omega
    have w2 : IntKind.i64.wrap (n : Int) = n := by rw [IntKind.wrap_i64]; omega
    have w3 : (k : Int) + n ≤ bs.length := by omega
    have hW : ∀ m, Hid (((w.drewN m).setCell ⟨p, 1, none⟩ (.int .i64 ((k : Int) + n))).heap[p]? = some (.cells #[.slice A bs.length c, .int .i64 ((k : Int) + n), .nilIface] 168 (0, 0))) := fun m => Lib.hid (by
      rw [block_setCell (show (w.drewN m).heap[p]? = _ from hb)]; rfl)
    have hKK : ∀ m, Hid (Kept (· = p) w ((w.drewN m).setCell ⟨p, 1, none⟩ (.int .i64 ((k : Int) + n)))) := fun m => Lib.hid (Kept.setCell (S := (· = p)) (p := ⟨p, 1, none⟩) ((Kept.refl _ w).drewN m) (.inl rfl) _)
    have hIn : ∀ m, Hid (∃ k', InC ((w.drewN m).setCell ⟨p, 1, none⟩ (.int .i64 ((k : Int) + n))) p A c bs k' .nilIface) := fun m => Lib.hid ⟨k + n, hI.out.step (by have := (hW m).out; push_cast; exact this) (hKK m).out hnk (.inl rfl)⟩
    have hR2 : ∀ m, Hid (RB ((w.drewN m).setCell ⟨p, 1, none⟩ (.int .i64 ((k : Int) + n))) (.slice A bs.length c) bs) := fun m => Lib.hid (by
      obtain ⟨k', hi⟩ := (hIn m).out
      exact hi.2.1)
    clear h hb hR_ hrow hW
    cases A with
    | none =>
      have hc0 := hnil rfl
      have hn0 : n = 0 := by omega
      have hk0 : k = 0 := by omega
      have hb0 : bs.length = 0 := by omega
      obtain rfl : bs = [] := List.eq_nil_of_length_eq_zero hb0
      subst hn0 hk0 hc0
      simp only [List.length_nil] at *
      go_enter Tryz.func125, Tryz.ntmps125
      go_wp2_with fail
      go_quiet (fail)
      go_wp2_with fail
      go_quiet (fail)
      go_wp2_with fail
      refine bodyPost_ret (v := .tuple #[.slice none 0 0, .bool true]) ?_ rfl ⟨.inl ⟨_, _, [], rfl, rfl, by omega, ?_⟩, (hIn _).out, (hKK _).out⟩
      · simp [results, Tryz.results125, go_sem]
      · exact ⟨_, _, rfl, fun _ => rfl, Nat.le_refl _, Nat.zero_le _, RowAt.nil _ _⟩
    | some ad =>
      clear hnil
      go_enter Tryz.func125, Tryz.ntmps125
      go_wp2_with fail
      go_quiet (fail)
      go_wp2_with fail
      go_quiet (fail)
      go_wp2_with fail
      · subst h
        have hn0 : n = 0 := by omega
        subst hn0
        refine bodyPost_ret (v := .tuple #[.slice (some ad) 0 0, .bool true]) ?_ rfl ⟨.inl ⟨_, _, [], rfl, rfl, by omega, ?_⟩, (hIn _).out, (hKK _).out⟩
        · simp [results, Tryz.results125, go_sem]
        · exact ⟨_, _, rfl, fun h => (by cases h), Nat.le_refl _, Nat.zero_le _, RowAt.nil _ _⟩
      · refine bodyPost_ret (v := .tuple #[.slice (some (ad.add k)) n (c - k), .bool true]) ?_ rfl ⟨.inl ⟨_, _, (bs.drop k).take n, rfl, by simp; omega, by omega, ?_⟩, (hIn _).out, (hKK _).out⟩
        · simp [results, Tryz.results125, go_sem]
        · exact (hR2 _).out.sub k n hnk rfl rfl rfl rfl
end Go.Proofs.YteeiacfddjhhkaaGreatDoor
namespace Go.Proofs.YteeiacfddjhhkaaGreatDoor
open Go.RowKit
set_option maxRecDepth 100000

def NatRet (w : World) (p : Nat) (A : Option Addr) (c : Nat) (bs : List UInt8) (e : Ending) (w' : World) : Prop :=
  (∃ (n : Nat) (ok : Bool), e = .returned (.tuple #[.int .u64 n, .bool ok]) ∧ n < 18446744073709551616) ∧ (∃ k', InC w' p A c bs k' .nilIface) ∧ Kept (· = p) w w'
theorem NatRet.mk {w : World} {p : Nat} {A : Option Addr} {c : Nat} {bs : List UInt8} {e : Ending} {w' : World} (n : Nat) (ok : Bool) (he : e = .returned (.tuple #[.int .u64 n, .bool ok])) (hn : n < 18446744073709551616) (hI : ∃ k', InC w' p A c bs k' .nilIface) (hK : Kept (· = p) w w') : NatRet w p A c bs e w' :=
  ⟨⟨n, ok, he, hn⟩, hI, hK⟩
theorem nat_s (p : Nat) (A : Option Addr) (c : Nat) (bs : List UInt8) (k : Nat) (w : World) (h : InC w p A c bs k .nilIface) :
    Calls Tryz.prog 92 #[.pointer (some ⟨p, 0, none⟩)] w (NatRet w p A c bs) := by
  have hI := Lib.hid h
  clear h
  go_enter Tryz.func92, Tryz.ntmps92
  go_wp2_with fail
  refine (raw_s 1 p A c bs k _ hI.out (by decide)).mono ?_
  rintro e w1 ⟨(⟨A1, c1, a, rfl, ha, _, hR1_⟩ | rfl), hI1_, hK1_⟩
  case inr =>
    have hI1 := Lib.hid hI1_
    have hK1 := Lib.hid hK1_
    clear hI1_ hK1_
    go_wp2_with fail
    refine bodyPost_ret (v := .tuple #[.int .u64 ((0 : Nat) : Int), .bool false]) ?_ rfl (NatRet.mk 0 false rfl (by decide) hI1.out hK1.out)
    simp [results, Tryz.results92, go_sem]
  obtain ⟨x, rfl⟩ : ∃ x, a = [x] := List.length_eq_one_iff.1 ha
  have hR1 := Lib.hid hR1_
  obtain ⟨k1, hI1_⟩ := hI1_
  have hI1 := Lib.hid hI1_
  have hK1 := Lib.hid hK1_
  obtain ⟨ad, rfl, hc⟩ := hR1_.at_ (i := 0) (by simp)
  rw [add_zero', List.getElem_cons_zero] at hc
  have hx := x.toNat_lt
  clear hR1_ hI1_ hK1_ ha
  by_cases h8 : (8 : Int) < x.toNat
  · have d8 : decide ((8 : Int) < x.toNat) = true := by simpa using h8
    clear h8
    go_wp2_with fail
    refine bodyPost_ret (v := .tuple #[.int .u64 ((0 : Nat) : Int), .bool false]) ?_ rfl (NatRet.mk 0 false rfl (by decide) ⟨_, hI1.out⟩ hK1.out)
    simp [results, Tryz.results92, go_sem]
  have d8 : decide ((8 : Int) < x.toNat) = false := by simpa using h8
  go_wp2_with fail
  refine (raw_s x.toNat p A c bs k1 _ hI1.out (by omega)).mono ?_
  rintro e w2 ⟨(⟨A2, c2, D, rfl, hD, _, hR2_⟩ | rfl), hI2_, hK2_⟩
  case inr =>
    have hI2 := Lib.hid hI2_
    have hK2 := Lib.hid (hK1.out.trans hK2_ fun _ _ h => h)
    clear hI2_ hK2_
    go_wp2_with fail
    refine bodyPost_ret (v := .tuple #[.int .u64 ((0 : Nat) : Int), .bool false]) ?_ rfl (NatRet.mk 0 false rfl (by decide) hI2.out hK2.out)
    simp [results, Tryz.results92, go_sem]
  have hEND := Lib.hid (And.intro hI2_ (hK1.out.trans hK2_ fun _ _ h => h))
  have hR2 := Lib.hid hR2_
  have hDl : D.length ≤ 8 := by omega
  have hz0 : D.length = 0 ∨ ∃ (ad : Addr) (y : UInt8), A2 = some ad ∧ w2.cell? ad = some (.int .u8 (y.toNat : Int)) ∧ 0 < D.length := by
    rcases Nat.eq_zero_or_pos D.length with h | h
    · exact .inl h
    · rw [← hD] at hR2_
      obtain ⟨ad', had, hc2⟩ := hR2_.at_ (i := 0) h
      exact .inr ⟨ad', _, had, hc2, h⟩
  clear hR2_ hI2_ hK2_ hI1 hK1 hR1 hc
  rw [← hD] at *
  clear hD hx d8 h8
  rcases hz0 with hz | ⟨ad2, y, rfl, hc, hpos⟩
  · obtain rfl : D = [] := List.eq_nil_of_length_eq_zero hz
    go_wp2_with fail
    refine wp_loop_rounds 1 ?_
    rw [rounds_succ]
    go_wp2_with fail
    refine bodyPost_ret (v := .tuple #[.int .u64 ((0 : Nat) : Int), .bool true]) ?_ rfl (NatRet.mk 0 true rfl (by decide) hEND.out.1 hEND.out.2)
    simp [results, Tryz.results92, go_sem]
  by_cases hy : (y.toNat : Int) = 0
  · have dy : ((y.toNat : Int) == 0) = true := by simpa using hy
    clear hy
    go_wp2_with fail
    refine bodyPost_ret (v := .tuple #[.int .u64 ((0 : Nat) : Int), .bool false]) ?_ rfl (NatRet.mk 0 false rfl (by decide) hEND.out.1 hEND.out.2)
    simp [results, Tryz.results92, go_sem]
  · have dy : ((y.toNat : Int) == 0) = false := by simpa using hy
    clear hy
    go_wp2_with fail
    go_loop [7, 9, 47] (fun s _ i => ∃ k : Nat, k ≤ D.length ∧ i = .int .i64 k ∧ s = .int .u64 (beN (D.take k))) (fun _ _ i => D.length - (intOf i).toNat)
    case atStart => exact ⟨0, by omega, rfl, rfl⟩
    case round =>
      obtain ⟨k, hk, rfl, rfl⟩ := hrel
      by_cases hlt : k < D.length
      · obtain ⟨ad', had, hc2⟩ := hR2.out.at_ hlt
        cases had
        have hs := beN_snoc (D.take k) D[k]
        rw [← List.take_succ_eq_append_getElem hlt] at hs
        have hle := beN_le 7 (show (D.take k).length ≤ 7 by simp; omega)
        have hle2 := beN_le 8 (show (D.take (k+1)).length ≤ 8 by simp; omega)
        generalize beN (D.take k) = x at *
        go_wp2_with fail
        have hc9 := D[k].toNat_lt
        have ho : bits BinOp.or IntKind.u64 ((x : Int) * 256) (D[k].toNat : Int) = (beN (D.take (k + 1)) : Nat) := by
          rw [show (x : Int) * 256 = ((x * 256 : Nat) : Int) by omega, u64_or_nat _ _ (by omega) (by omega), or256 _ _ (by omega), hs]
        rw [ho]
        go_round
        case rel => exact ⟨k + 1, by omega, by go_num, rfl⟩
        case measure => simp [intOf]; omega
      · have hkk : k = D.length := by omega
        subst hkk
        rw [List.take_length]
        have hle := beN_le 8 hDl
        go_wp2_with fail
        refine bodyPost_ret (v := .tuple #[.int .u64 (beN D : Nat), .bool true]) ?_ rfl (NatRet.mk (beN D) true rfl (by simpa using hle) hEND.out.1 hEND.out.2)
        simp [results, Tryz.results92, go_sem]
def NatS (w : World) (p : Nat) (e : Ending) (w' : World) : Prop := ∃ n : Nat, e = .returned (.int .u64 n) ∧ n < 18446744073709551616 ∧ ReadS w p w'
theorem Nat_s (p : Nat) (w : World) (h : InS w p) :
    Calls Tryz.prog 68 #[.pointer (some ⟨p, 0, none⟩)] w (NatS w p) := by
  obtain ⟨A, c, bs, k, ev, h⟩ := h
  have x1 : w.cell? ⟨p, 1, none⟩ = some (.int .i64 k) := by rw [block_cell h.1]; rfl
  have hkl := h.2.2.2.1
  have hI := Lib.hid h
  clear h
  go_enter Tryz.func68, Tryz.ntmps68
  go_wp2_with fail
  refine (bad_s p A c bs k ev _ hI.out).mono ?_
  rintro e w1 ⟨(⟨rfl, rfl⟩ | ⟨rfl, _⟩), rfl⟩
  case inr =>
    go_wp2_with fail
    go_ret
    exact ⟨0, rfl, by decide, ⟨_, _, _, _, _, hI.out⟩, Kept.refl _ _⟩
  go_wp2_with fail
  refine (nat_s p A c bs k _ hI.out).mono ?_
  rintro e w2 ⟨⟨n, ok, rfl, hn⟩, ⟨k', hI2_⟩, hK2_⟩
  have hI2 := Lib.hid hI2_
  have hK2 := Lib.hid hK2_
  have hN := Lib.hid hn
  clear hI2_ hK2_ hn
  cases ok
  · go_wp2_with fail
    refine (fail_s p A c bs k' k 6 _ hI2.out hkl (by decide)).mono ?_
    rintro e w3 ⟨rfl, hI3_, hK3_⟩
    have hI3 := Lib.hid hI3_
    have hK3 := Lib.hid (hK2.out.trans hK3_ fun _ _ h => h)
    clear hI3_ hK3_
    go_wp2_with fail
    go_ret
    exact ⟨n, rfl, hN.out, hI3.out, hK3.out⟩
  · go_wp2_with fail
    go_ret
    exact ⟨n, rfl, hN.out, ⟨_, _, _, _, _, hI2.out⟩, hK2.out⟩
theorem small_s (p : Nat) (w : World) (h : InS w p) :
    Calls Tryz.prog 67 #[.pointer (some ⟨p, 0, none⟩)] w fun e w' => ∃ n : Int, e = .returned (.int .i64 n) ∧ (0 ≤ n ∧ n ≤ 1073741824) ∧ ReadS w p w' := by
  have hI := Lib.hid h
  clear h
  go_enter Tryz.func67, Tryz.ntmps67
  go_wp2_with fail
  refine (Nat_s p _ hI.out).mono ?_
  rintro e w2 ⟨n, rfl, hn, hR_⟩
  have hR := Lib.hid hR_
  clear hR_
  go_wp2_with fail
  all_goals
    go_ret
    exact ⟨_, rfl, by omega, hR.out⟩
/-- A number unfolded. -/
def unzig (u : Nat) : Int := if u % 2 = 0 then (u / 2 : Nat) else -((u / 2 : Nat) : Int) - 1
theorem zig_unzig (u : Nat) : zig (unzig u) = u := by
  unfold zig unzig
  split <;> split <;> omega
theorem unzig_ok {u : Nat} (h : u < 18446744073709551616) : i64ok (unzig u) := by
  unfold i64ok unzig
  split <;> omega
theorem Num_s (p : Nat) (w : World) (h : InS w p) :
    Calls Tryz.prog 70 #[.pointer (some ⟨p, 0, none⟩)] w fun e w' => ∃ n : Int, e = .returned (.int .i64 n) ∧ i64ok n ∧ ReadS w p w' := by
  have hI := Lib.hid h
  clear h
  go_enter Tryz.func70, Tryz.ntmps70
  go_wp2_with fail
  refine (Nat_s p _ hI.out).mono ?_
  rintro e w2 ⟨u, rfl, hu, hR_⟩
  have hR := Lib.hid hR_
  have hS := Lib.hid (signed_any (unzig u) (unzig_ok hu))
  have hO := Lib.hid (unzig_ok hu)
  clear hR_
  rw [zig_unzig] at hS
  go_wp2_with fail
  refine (hS.out _).mono ?_
  rintro e w3 ⟨rfl, rfl⟩
  go_wp2_with fail
  go_ret
  exact ⟨_, rfl, hO.out, hR.out⟩
def StrRet (w : World) (p : Nat) (A : Option Addr) (c : Nat) (bs : List UInt8) (m : Nat) (e : Ending) (w' : World) : Prop :=
  (∃ (s : ByteArray) (x : Int), e = .returned (.tuple #[.string s, .int .i64 x]) ∧ s.size ≤ m) ∧ (∃ k', InC w' p A c bs k' .nilIface) ∧ Kept (· = p) w w'
theorem str_s (m : Nat) (p : Nat) (A : Option Addr) (c : Nat) (bs : List UInt8) (k : Nat) (w : World) (h : InC w p A c bs k .nilIface) (hm : m ≤ 1000000) :
    Calls Tryz.prog 97 #[.pointer (some ⟨p, 0, none⟩), .int .i64 m] w (StrRet w p A c bs m) := by
  have hI := Lib.hid h
  clear h
  go_enter Tryz.func97, Tryz.ntmps97
  go_wp2_with fail
  refine (nat_s p A c bs k _ hI.out).mono ?_
  rintro e w2 ⟨⟨n, ok, rfl, hn⟩, ⟨k', hI2_⟩, hK2_⟩
  have hI2 := Lib.hid hI2_
  have hK2 := Lib.hid hK2_
  clear hI2_ hK2_
  cases ok
  · go_wp2_with fail
    refine bodyPost_ret (v := .tuple #[.string ⟨#[]⟩, .int .i64 6]) ?_ rfl ⟨⟨_, _, rfl, by show 0 ≤ m; omega⟩, ⟨_, hI2.out⟩, hK2.out⟩
    simp [results, Tryz.results97, go_sem]
  by_cases hnm : m < n
  · have d1 : decide (m < n) = true := by simpa using hnm
    have hN := Lib.hid hn
    clear hnm hn
    go_wp2_with fail
    refine bodyPost_ret (v := .tuple #[.string ⟨#[]⟩, .int .i64 7]) ?_ rfl ⟨⟨_, _, rfl, by show 0 ≤ m; omega⟩, ⟨_, hI2.out⟩, hK2.out⟩
    simp [results, Tryz.results97, go_sem]
  have d1 : decide (m < n) = false := by simpa using hnm
  go_wp2_with fail
  refine (raw_s n p A c bs k' _ hI2.out hn).mono ?_
  rintro e w3 ⟨(⟨A3, c3, a, rfl, ha, _, hR3_⟩ | rfl), ⟨k3, hI3_⟩, hK3_⟩
  case inr =>
    have hI3 := Lib.hid hI3_
    have hK3 := Lib.hid (hK2.out.trans hK3_ fun _ _ h => h)
    clear hI3_ hK3_
    go_wp2_with fail
    refine bodyPost_ret (v := .tuple #[.string ⟨#[]⟩, .int .i64 6]) ?_ rfl ⟨⟨_, _, rfl, by show 0 ≤ m; omega⟩, ⟨_, hI3.out⟩, hK3.out⟩
    simp [results, Tryz.results97, go_sem]
  have hI3 := Lib.hid hI3_
  have hK3 := Lib.hid (hK2.out.trans hK3_ fun _ _ h => h)
  have hR3 := Lib.hid hR3_
  have hA := Lib.hid ha
  clear hI3_ hK3_ hR3_ ha
  go_wp2_with (refine list_of_wp rfl ?_; refine wp_conv_BS (.tmp 29) _ a rfl rfl hR3.out ?_)
  go_wp2_with fail
  refine bodyPost_ret (v := .tuple #[.string ⟨a.toArray⟩, .int .i64 0]) ?_ rfl ⟨⟨_, _, rfl, ?_⟩, ⟨_, hI3.out⟩, hK3.out⟩
  · simp [results, Tryz.results97, go_sem]
  · have := hA.out
    show a.toArray.size ≤ m
    simp
    omega
theorem Str_s (m : Nat) (p : Nat) (w : World) (h : InS w p) (hm : m ≤ 1000000) :
    Calls Tryz.prog 72 #[.pointer (some ⟨p, 0, none⟩), .int .i64 m] w fun e w' => ∃ s : ByteArray, e = .returned (.string s) ∧ s.size ≤ m ∧ ReadS w p w' := by
  obtain ⟨A, c, bs, k, ev, h⟩ := h
  have x1 : w.cell? ⟨p, 1, none⟩ = some (.int .i64 k) := by rw [block_cell h.1]; rfl
  have hkl := h.2.2.2.1
  have hI := Lib.hid h
  clear h
  go_enter Tryz.func72, Tryz.ntmps72
  go_wp2_with fail
  refine (bad_s p A c bs k ev _ hI.out).mono ?_
  rintro e w1 ⟨(⟨rfl, rfl⟩ | ⟨rfl, _⟩), rfl⟩
  case inr =>
    go_wp2_with fail
    go_ret
    exact ⟨⟨#[]⟩, rfl, by show 0 ≤ m; omega, ⟨_, _, _, _, _, hI.out⟩, Kept.refl _ _⟩
  go_wp2_with fail
  refine (str_s m p A c bs k _ hI.out hm).mono ?_
  rintro e w2 ⟨⟨s, x, rfl, hs⟩, ⟨k', hI2_⟩, hK2_⟩
  have hI2 := Lib.hid hI2_
  have hK2 := Lib.hid hK2_
  have hSS := Lib.hid hs
  clear hI2_ hK2_ hs
  by_cases hx : x = 0
  · subst hx
    go_wp2_with fail
    go_ret
    exact ⟨s, rfl, hSS.out, ⟨_, _, _, _, _, hI2.out⟩, hK2.out⟩
  · have dx : (x != 0) = true := by simpa using hx
    go_wp2_with fail
    refine (fail_s p A c bs k' k x _ hI2.out hkl hx).mono ?_
    rintro e w3 ⟨rfl, hI3_, hK3_⟩
    have hI3 := Lib.hid hI3_
    have hK3 := Lib.hid (hK2.out.trans hK3_ fun _ _ h => h)
    clear hI3_ hK3_
    go_wp2_with fail
    go_ret
    exact ⟨s, rfl, hSS.out, hI3.out, hK3.out⟩
theorem Err_o (p : Nat) (A : Option Addr) (c : Nat) (bs : List UInt8) (k : Nat) (w : World) (h : InC w p A c bs k .nilIface) :
    Calls Tryz.prog 95 #[.pointer (some ⟨p, 0, none⟩)] w fun e w' => e = .returned (.int .i64 0) ∧ Below w.heap.size w w' := by
  have x2 : w.cell? ⟨p, 2, none⟩ = some .nilIface := by rw [block_cell h.1]; rfl
  clear h
  go_enter Tryz.func95, Tryz.ntmps95
  go_wp2_with fail
  refine (code_ok _).mono ?_
  rintro e w2 ⟨rfl, hB_⟩
  have hB := Lib.hid hB_
  clear hB_
  go_wp2_with fail
  go_ret
  exact ⟨rfl, hB.out⟩
theorem Err_b (p : Nat) (A : Option Addr) (c : Nat) (bs : List UInt8) (k : Nat) (ev : Value) (w : World) (h : InC w p A c bs k ev) (hev : ev ≠ .nilIface) (hG : GOk w) :
    Calls Tryz.prog 95 #[.pointer (some ⟨p, 0, none⟩)] w fun e w' => ∃ x : Int, e = .returned (.int .i64 x) ∧ x ≠ 0 ∧ Below w.heap.size w w' := by
  obtain ⟨hb, _, _, _, _, he⟩ := h
  obtain ⟨T, b, e, rfl, he0, hE_⟩ := he.resolve_left hev
  have x2 : w.cell? ⟨p, 2, none⟩ = some (.iface T (.pointer (some ⟨b, 0, none⟩))) := by rw [block_cell hb]; rfl
  have hE := Lib.hid hE_
  have hGG := Lib.hid hG
  have he9 := Lib.hid he0
  clear hb hE_ hG hev he he0
  go_enter Tryz.func95, Tryz.ntmps95
  go_wp2_with fail
  refine (code_err _ e _ hE.out hGG.out).mono ?_
  rintro e w2 ⟨rfl, hB_⟩
  have hB := Lib.hid hB_
  clear hB_
  go_wp2_with fail
  go_ret
  exact ⟨_, rfl, he9.out, hB.out⟩
theorem Err_s (p : Nat) (w : World) (h : InS w p) (hG : GOk w) :
    Calls Tryz.prog 95 #[.pointer (some ⟨p, 0, none⟩)] w fun e w' => ∃ x : Int, e = .returned (.int .i64 x) ∧ Below w.heap.size w w' := by
  obtain ⟨A, c, bs, k, ev, h⟩ := h
  by_cases hev : ev = .nilIface
  · subst hev
    exact (Err_o p A c bs k w h).mono fun e w' h => ⟨0, h.1, h.2⟩
  · exact (Err_b p A c bs k ev w h hev hG).mono fun e w' ⟨x, h1, _, h2⟩ => ⟨x, h1, h2⟩
theorem Left_s (p : Nat) (w : World) (h : InS w p) :
    Calls Tryz.prog 69 #[.pointer (some ⟨p, 0, none⟩)] w fun e w' => ∃ x : Int, e = .returned (.int .i64 x) ∧ Below w.heap.size w w' := by
  obtain ⟨A, c, bs, k, ev, hb, _, _, hk, hl, _⟩ := h
  have x0 : w.cell? ⟨p, 0, none⟩ = some (.slice A bs.length c) := by rw [block_cell hb]; rfl
  have x1 : w.cell? ⟨p, 1, none⟩ = some (.int .i64 k) := by rw [block_cell hb]; rfl
  clear hb
  go_enter Tryz.func69, Tryz.ntmps69
  go_wp2_with fail
  go_quiet (fail)
  go_wp2_with fail
  go_ret
  exact ⟨_, rfl, below_drewN (Below.refl _ _) _⟩
theorem InC.ne0 {w : World} {p : Nat} {A : Option Addr} {c : Nat} {bs : List UInt8} {k : Nat} {ev : Value} (h : InC w p A c bs k ev) (hG : GOk w) : ¬ 0 = p := by
  rintro rfl
  have h2 : w.cell? ⟨0, 0, none⟩ = _ := hG
  rw [block_cell h.1] at h2
  simp at h2
theorem GOk.read {w w' : World} {p : Nat} (hG : GOk w) (h : InS w p) (hk : Kept (· = p) w w') : GOk w' := by
  obtain ⟨A, c, bs, k, ev, h⟩ := h
  exact hG.kept hk (h.ne0 hG)
/-- The reader stands at its end, with no fault. -/
def AtEnd (w : World) (p : Nat) : Prop := ∃ A c bs, InC w p A c bs bs.length .nilIface
def NotEnd (w : World) (p : Nat) : Prop := ∃ A c bs k ev, InC w p A c bs k ev ∧ (ev ≠ .nilIface ∨ k < bs.length)
theorem InS.ends {w : World} {p : Nat} (h : InS w p) : AtEnd w p ∨ NotEnd w p := by
  obtain ⟨A, c, bs, k, ev, h⟩ := h
  by_cases hev : ev = .nilIface
  · subst hev
    by_cases hk : k < bs.length
    · exact .inr ⟨A, c, bs, k, _, h, .inr hk⟩
    · have hk2 := h.2.2.2.1
      obtain rfl : k = bs.length := by omega
      exact .inl ⟨A, c, bs, h⟩
  · exact .inr ⟨A, c, bs, k, ev, h, .inl hev⟩
theorem AtEnd.later {w W : World} {p : Nat} (h : AtEnd w p) (hb : Below w.heap.size w W) : AtEnd W p := by
  obtain ⟨A, c, bs, h⟩ := h
  exact ⟨A, c, bs, h.later hb⟩
theorem NotEnd.later {w W : World} {p : Nat} (h : NotEnd w p) (hb : Below w.heap.size w W) : NotEnd W p := by
  obtain ⟨A, c, bs, k, ev, h, h2⟩ := h
  exact ⟨A, c, bs, k, ev, h.later hb, h2⟩
theorem End_o (p : Nat) (w : World) (h : AtEnd w p) :
    Calls Tryz.prog 74 #[.pointer (some ⟨p, 0, none⟩)] w fun e w' => e = .returned (.int .i64 0) ∧ Below w.heap.size w w' := by
  obtain ⟨A, c, bs, h⟩ := h
  have hI := Lib.hid h
  have x0 : w.cell? ⟨p, 0, none⟩ = some (.slice A bs.length c) := by rw [block_cell h.1]; rfl
  have x1 : w.cell? ⟨p, 1, none⟩ = some (.int .i64 bs.length) := by rw [block_cell h.1]; rfl
  have x2 : w.cell? ⟨p, 2, none⟩ = some .nilIface := by rw [block_cell h.1]; rfl
  have hlt : ¬ ((bs.length : Int) < bs.length) := by omega
  clear h
  go_enter Tryz.func74, Tryz.ntmps74
  go_wp2_with fail
  go_quiet (fail)
  have hq := Lib.hid (below_drewN (Below.refl w.heap.size w) nq)
  go_wp2_with fail
  refine (Err_o p A c bs bs.length _ (hI.out.later hq.out)).mono ?_
  rintro e w2 ⟨rfl, hB_⟩
  have hB := Lib.hid (bnext hq.out hB_)
  clear hB_
  go_wp2_with fail
  go_ret
  exact ⟨rfl, hB.out⟩
theorem End_b (p : Nat) (w : World) (h : NotEnd w p) (hG : GOk w) :
    Calls Tryz.prog 74 #[.pointer (some ⟨p, 0, none⟩)] w fun e w' => ∃ x : Int, e = .returned (.int .i64 x) ∧ x ≠ 0 ∧ ReadS w p w' := by
  obtain ⟨A, c, bs, k, ev, h, h2⟩ := h
  obtain ⟨hb, _, _, hk, hl, he⟩ := id h
  have hI := Lib.hid h
  have hGG := Lib.hid hG
  have x0 : w.cell? ⟨p, 0, none⟩ = some (.slice A bs.length c) := by rw [block_cell hb]; rfl
  have x1 : w.cell? ⟨p, 1, none⟩ = some (.int .i64 k) := by rw [block_cell hb]; rfl
  rcases he with rfl | ⟨T, b, e, rfl, _, hE_⟩
  · have hlt : k < bs.length := h2.resolve_left (fun h => h rfl)
    have x2 : w.cell? ⟨p, 2, none⟩ = some .nilIface := by rw [block_cell hb]; rfl
    clear hb h hG h2
    have d1 : decide (k < bs.length) = true := by simpa using hlt
    go_enter Tryz.func74, Tryz.ntmps74
    go_wp2_with fail
    go_quiet (fail)
    have hq := Lib.hid (below_drewN (Below.refl w.heap.size w) nq)
    go_wp2_with fail
    refine (fail_b p A c bs k k 6 _ (hI.out.later hq.out) (by omega) (by decide)).mono ?_
    rintro e w3 ⟨rfl, hK3_, ev3, hev3_, hI3_⟩
    have hI3 := Lib.hid hI3_
    have hv3 := Lib.hid hev3_
    have hK3 := Lib.hid ((Kept.of_below (· = p) hq.out).trans hK3_ fun _ _ h => h)
    clear hI3_ hK3_ hev3_
    go_wp2_with fail
    refine (Err_b p A c bs k ev3 _ hI3.out hv3.out (hGG.out.read ⟨_, _, _, _, _, hI.out⟩ hK3.out)).mono ?_
    rintro e w4 ⟨x, rfl, hx_, hB_⟩
    have hB := Lib.hid hB_
    have hX := Lib.hid hx_
    clear hB_ hx_
    go_wp2_with fail
    go_ret
    exact ⟨x, rfl, hX.out, ⟨_, _, _, _, _, hI3.out.later hB.out⟩, hK3.out.below hB.out⟩
  · have x2 : w.cell? ⟨p, 2, none⟩ = some (.iface T (.pointer (some ⟨b, 0, none⟩))) := by rw [block_cell hb]; rfl
    clear hb h hG hE_ h2
    go_enter Tryz.func74, Tryz.ntmps74
    go_wp2_with fail
    go_quiet (fail)
    have hq := Lib.hid (below_drewN (Below.refl w.heap.size w) nq)
    go_wp2_with fail
    refine (Err_b p A c bs k _ _ (hI.out.later hq.out) (by simp) (hGG.out.below hq.out)).mono ?_
    rintro e w4 ⟨x, rfl, hx_, hB_⟩
    have hB := Lib.hid (bnext hq.out hB_)
    have hX := Lib.hid hx_
    clear hB_ hx_
    go_wp2_with fail
    go_ret
    exact ⟨x, rfl, hX.out, ⟨_, _, _, _, _, hI.out.later hB.out⟩, Kept.of_below _ hB.out⟩
theorem End_s (p : Nat) (w : World) (h : InS w p) (hG : GOk w) :
    Calls Tryz.prog 74 #[.pointer (some ⟨p, 0, none⟩)] w fun e w' => ∃ x : Int, e = .returned (.int .i64 x) ∧ ReadS w p w' := by
  rcases h.ends with h1 | h1
  · exact (End_o p w h1).mono fun e w' h' => ⟨0, h'.1, h.later h'.2, Kept.of_below _ h'.2⟩
  · exact (End_b p w h1 hG).mono fun e w' ⟨x, h1, _, h2⟩ => ⟨x, h1, h2⟩
end Go.Proofs.YteeiacfddjhhkaaGreatDoor
namespace Go.Proofs.YteeiacfddjhhkaaGreatDoor
open Go.RowKit
set_option maxRecDepth 100000

def BoolRet (w : World) (e : Ending) (w' : World) : Prop := ∃ b, e = .returned (.bool b) ∧ Below w.heap.size w w'
theorem hasPrefix0_s (s : ByteArray) (w : World) (hs : s.size ≤ 1000000) :
    Calls Tryz.prog 160 #[.string s, .string ⟨#[126]⟩] w fun e w' => ∃ b, e = .returned (.bool b) ∧ (b = true → 1 ≤ s.size) ∧ w' = w := by
  by_cases h : 1 ≤ s.size
  · have h1 : (1 : Int) ≤ (s.size : Int) := by omega
    go_enter Tryz.func160, Tryz.ntmps160
    go_wp2_with fail
    go_ret
    exact ⟨_, rfl, fun _ => h, rfl⟩
  · have h0 : s.size = 0 := by omega
    have d1 : decide ((1 : Int) ≤ (s.size : Int)) = false := by simp; omega
    go_enter Tryz.func160, Tryz.ntmps160
    go_wp2_with fail
    go_ret
    exact ⟨false, rfl, fun h => by simp at h, rfl⟩
theorem hasPrefix_s (s : ByteArray) (w : World) (hs : s.size ≤ 1000000) :
    Calls Tryz.prog 151 #[.string s, .string ⟨#[126]⟩] w fun e w' => ∃ b, e = .returned (.bool b) ∧ (b = true → 1 ≤ s.size) ∧ w' = w := by
  go_enter Tryz.func151, Tryz.ntmps151
  go_wp2_with fail
  refine (hasPrefix0_s s _ hs).mono ?_
  rintro e w' ⟨b, rfl, hb, rfl⟩
  have hB := Lib.hid hb
  clear hb
  go_wp2_with fail
  go_ret
  exact ⟨b, rfl, hB.out, rfl⟩
theorem system_s (s : ByteArray) (w : World) (hs : s.size ≤ 1000000) :
    Calls Tryz.prog 128 #[.string s] w (BoolRet w) := by
  by_cases h : (s.size : Int) ≤ 16
  · have d1 : decide ((s.size : Int) ≤ 16) = true := by simpa using h
    go_enter Tryz.func128, Tryz.ntmps128
    go_wp2_with fail
    refine (hasPrefix_s s _ hs).mono ?_
    rintro e w' ⟨b, rfl, hb, rfl⟩
    cases b
    · clear hb
      go_wp2_with fail
      go_ret
      exact ⟨_, rfl, Below.refl _ _⟩
    · have h1 : (1 : Int) ≤ (s.size : Int) := by have := hb rfl; omega
      clear hb
      go_wp2_with fail
      refine (letters_any _ (by simp; omega) _).mono ?_
      rintro e w2 ⟨rfl, hB_⟩
      have hB := Lib.hid hB_
      clear hB_
      go_wp2_with fail
      go_ret
      exact ⟨_, rfl, hB.out⟩
  · have d1 : decide ((s.size : Int) ≤ 16) = false := by simpa using h
    go_enter Tryz.func128, Tryz.ntmps128
    go_wp2_with fail
    go_ret
    exact ⟨_, rfl, Below.refl _ _⟩
theorem opsMay_s (o : POp) (w : World) (hks : o.key.size ≤ 1000000) :
    Calls Tryz.prog 96 #[opV o] w (BoolRet w) := by
  obtain ⟨kind, key, n, lo⟩ := o
  have hp := fun w => plain_any ⟨kind, key, n, lo⟩ w
  generalize plainO ⟨kind, key, n, lo⟩ = pl at hp
  have hk := fun w => key_any key hks w
  generalize keyS key.data.toList = ky at hk
  have hsy := Lib.hid (fun w => system_s key w hks)
  show Calls Tryz.prog 96 #[.agg #[.int .i64 kind, .string key, .int .i64 n, .int .i64 lo]] w _
  have hb0 := Lib.hid (heap_alloc_new w (.cells #[.int .i64 kind, .string key, .int .i64 n, .int .i64 lo] 108))
  have hB0 := Lib.hid (below_alloc (Below.refl _ w) (.cells #[.int .i64 kind, .string key, .int .i64 n, .int .i64 lo] 108))
  go_enter Tryz.func96, Tryz.ntmps96
  go_wp2_with fail
  refine (hp _).mono ?_
  rintro e w1 ⟨rfl, hB1_⟩
  have hB1 := Lib.hid (bnext hB0.out hB1_)
  have hb1 := Lib.hid (block_below hB1_ hb0.out)
  have x1 : w1.cell? ⟨w.heap.size, 1, none⟩ = some (.string key) := by rw [block_cell hb1.out]; rfl
  clear hB1_ hb0
  cases pl
  · go_wp2_with fail
    go_ret
    exact ⟨_, rfl, hB1.out⟩
  go_wp2_with fail
  refine (hk _).mono ?_
  rintro e w2 ⟨rfl, hB2_⟩
  have hB2 := Lib.hid (bnext hB1.out hB2_)
  have x2 : w2.cell? ⟨w.heap.size, 1, none⟩ = some (.string key) := by rw [block_cell (block_below hB2_ hb1.out)]; rfl
  clear hB2_ x1
  cases ky
  · go_wp2_with fail
    refine (hsy.out _).mono ?_
    rintro e w3 ⟨b, rfl, hB3_⟩
    have hB3 := Lib.hid (bnext hB2.out hB3_)
    clear hB3_
    go_wp2_with fail
    go_ret
    exact ⟨_, rfl, hB3.out⟩
  · go_wp2_with fail
    go_ret
    exact ⟨_, rfl, hB2.out⟩
end Go.Proofs.YteeiacfddjhhkaaGreatDoor
namespace Go.Proofs.YteeiacfddjhhkaaGreatDoor
open Go.RowKit
set_option maxRecDepth 100000

theorem Kept.of_grown {w w' : World} {row : Option Nat} (h : w.grownBy w' row) : Kept (fun j => row = some j) w w' :=
  ⟨h.os, h.tape, h.output, h.size, fun k hk hn => h.block k hk (fun e => hn e.symm)⟩
/-- What ops.Decode hands back: operations, a number. -/
def DecS (w : World) (e : Ending) (w' : World) : Prop := ∃ (A : Option Addr) (c : Nat) (l : List POp) (x : Int), e = .returned (.tuple #[.slice A l.length c, .int .i64 x]) ∧ w'.ownsRow w.heap.size 108 4 (.slice A l.length c) l.length (opsC l) ∧ l.length ≤ 64 ∧ (∀ o ∈ l, o.ok ∧ o.key.size ≤ 16) ∧ Below w.heap.size w w'
theorem DecS.bad {w w' : World} {e : Ending} (x : Int) (he : e = .returned (.tuple #[.slice none 0 0, .int .i64 x])) (hB : Below w.heap.size w w') : DecS w e w' :=
  ⟨none, 0, [], x, he, own_nil _ _ _ _, by simp, by simp, hB⟩
theorem opsDec_s (v : Value) (bs : List UInt8) (w : World) (hR : RB w v bs) (hlen : bs.length ≤ 100000) (hG : GOk w) :
    Calls Tryz.prog 71 #[v] w (DecS w) := by
  obtain ⟨A, c, hv, _⟩ := id hR
  have hRR := Lib.hid hR
  have hGG := Lib.hid hG
  subst hv
  clear hR hG
  go_enter Tryz.func71, Tryz.ntmps71
  go_wp2_with fail
  refine (of_s _ bs _ hRR.out hlen).mono ?_
  rintro e w1 ⟨p, rfl, hI1_, hp, hB1_⟩
  have hI1 := Lib.hid hI1_
  have hB1 := Lib.hid hB1_
  clear hI1_ hB1_
  go_wp2_with fail
  refine (Nat_s p _ hI1.out).mono ?_
  rintro e w2 ⟨n, rfl, hn, hI2_, hK2_⟩
  have hI2 := Lib.hid hI2_
  have hB2 := Lib.hid (kept_below hB1.out hK2_ (by rintro _ rfl; exact hp))
  have hpl := Lib.hid hI2_.lt
  clear hI2_ hK2_ hI1
  by_cases h64 : 64 < n
  · have d1 : decide (64 < n) = true := by simpa using h64
    have d2 : decide ((64 : Int) < n) = true := by simp; omega
    have hN := Lib.hid hn
    clear h64 hn
    go_wp2_with fail
    refine bodyPost_ret (v := .tuple #[.slice none 0 0, .int .i64 6]) ?_ rfl (DecS.bad 6 rfl hB2.out)
    simp [results, Tryz.results71, go_sem]
  have d1 : decide ((64 : Int) < n) = false := by simp; omega
  go_wp2_with fail
  go_loopw [6, 7, 8, 9] (fun s i _ _ wr => ∃ (k : Nat) (l : List POp), k ≤ n ∧ i = .int .u64 k ∧ l.length = k ∧ wr.ownsRow (p + 1) 108 4 s k (opsC l) ∧ (∀ o ∈ l, o.ok ∧ o.key.size ≤ 16) ∧ InS wr p ∧ Below w.heap.size w wr) (fun _ i _ _ _ => n - (intOf i).toNat)
  case atStart => exact ⟨0, [], by omega, rfl, rfl, own_nil _ _ _ _, by simp, hI2.out, hB2.out⟩
  case round =>
    obtain ⟨k, l, hk, rfl, hlk, hO_, hops_, hI_, hB_⟩ := hrel
    have hO := Lib.hid hO_
    have hB := Lib.hid hB_
    have hI := Lib.hid hI_
    have hP := Lib.hid hI_.lt
    have hOPS := Lib.hid hops_
    have hLK := Lib.hid hlk
    clear hO_ hB_ hI_ hops_ hlk
    have hpb := Lib.hid hp
    by_cases hlt : k < n
    · have dk : decide (k < n) = true := by simpa using hlt
      go_wp2_with fail
      refine (Err_s p _ hI.out (hGG.out.below hB.out)).mono ?_
      rintro e w3 ⟨x3, rfl, hB3_⟩
      have hB3 := Lib.hid hB3_
      clear hB3_
      by_cases hx3 : x3 = 0
      case neg =>
        have dx3 : (x3 == 0) = false := by simpa using hx3
        clear hx3
        go_wp2_with fail
        refine (End_s p _ (hI.out.later hB3.out) (hGG.out.below (bnext hB.out hB3.out))).mono ?_
        rintro e w9 ⟨x9, rfl, hI9_, hK9_⟩
        have hB9 := Lib.hid (kept_below (bnext hB.out hB3.out) hK9_ (by rintro _ rfl; exact hpb.out))
        have hO9 := Lib.hid (own_lower (own_kept (own_below hO.out hB3.out) hK9_ (by rintro j hj rfl; omega)) (show w.heap.size ≤ p + 1 by have := hpb.out; omega))
        clear hI9_ hK9_
        by_cases hx9 : x9 = 0
        case neg =>
          have dx9 : (x9 != 0) = true := by simpa using hx9
          go_wp2_with fail
          refine bodyPost_ret (v := .tuple #[.slice none 0 0, .int .i64 6]) ?_ rfl (DecS.bad 6 rfl hB9.out)
          simp [results, Tryz.results71, go_sem]
        subst hx9
        rw [← hLK.out] at hO9
        obtain ⟨A2, c2, rfl⟩ := own_slice hO9.out
        go_wp2_with fail
        refine bodyPost_ret (v := .tuple #[.slice A2 l.length c2, .int .i64 0]) ?_ rfl ⟨_, _, l, 0, rfl, hO9.out, by have := hLK.out; omega, hOPS.out, hB9.out⟩
        simp [results, Tryz.results71, go_sem]
      subst hx3
      go_wp2_with fail
      refine (Nat_s p _ (hI.out.later hB3.out)).mono ?_
      rintro e w4 ⟨kind, rfl, hkind, hI4_, hK4_⟩
      have hI4 := Lib.hid hI4_
      have hK4 := Lib.hid hK4_
      clear hI4_ hK4_
      go_wp2_with fail
      · refine (Str_s 16 p _ hI4.out (by omega)).mono ?_
        rintro e w5 ⟨key, rfl, hkey_, hI5_, hK5_⟩
        have hI5 := Lib.hid hI5_
        have hK5 := Lib.hid hK5_
        have hKY := Lib.hid hkey_
        clear hI5_ hK5_ hkey_
        go_wp2_with fail
        refine (Num_s p _ hI5.out).mono ?_
        rintro e w6 ⟨n2, rfl, hn2_, hI6_, hK6_⟩
        have hI6 := Lib.hid hI6_
        have hK6 := Lib.hid hK6_
        have hN2 := Lib.hid hn2_
        clear hI6_ hK6_ hn2_
        go_wp2_with fail
        refine (Num_s p _ hI6.out).mono ?_
        rintro e w7 ⟨lo, rfl, hlo_, hI7_, hK7_⟩
        have hKall : Kept (· = p) w3 w7 := ((hK4.out.trans hK5.out (fun _ _ h => h)).trans hK6.out (fun _ _ h => h)).trans hK7_ (fun _ _ h => h)
        have hI7 := Lib.hid hI7_
        have hB7 := Lib.hid (kept_below (bnext hB.out hB3.out) hKall (by rintro _ rfl; exact hpb.out))
        have hO7 := Lib.hid (own_kept (own_below hO.out hB3.out) hKall (by rintro j hj rfl; omega))
        have hP7 := Lib.hid (show p < w7.heap.size from hI7_.lt)
        have hNEW : Hid ((⟨99, key, n2, lo⟩ : POp).ok ∧ (⟨99, key, n2, lo⟩ : POp).key.size ≤ 16) := Lib.hid ⟨⟨⟨by show (-9223372036854775808 : Int) ≤ 99; omega, by show (99 : Int) ≤ 9223372036854775807; omega⟩, hN2.out, hlo_⟩, hKY.out⟩
        have hk1 : Hid (key.size ≤ 1000000) := Lib.hid (by have := hKY.out; omega)
        clear hKall hI7_ hK7_ hK4 hK5 hK6 hI4 hI5 hI6 hO hB3 hI hlo_ hN2 hKY
        have hb8 := Lib.hid (heap_alloc_new w7 (.cells #[.int .i64 99, .string key, .int .i64 n2, .int .i64 lo] 108))
        have hB8 := Lib.hid (below_alloc (Below.refl _ w7) (.cells #[.int .i64 99, .string key, .int .i64 n2, .int .i64 lo] 108))
        go_wp2_with fail
        generalize w7.alloc (.cells #[.int .i64 99, .string key, .int .i64 n2, .int .i64 lo] 108) = W8 at *
        refine (Err_s p _ (hI7.out.later hB8.out) (hGG.out.below (bnext hB7.out hB8.out))).mono ?_
        rintro e w9 ⟨x9, rfl, hB9_⟩
        have hB9 := Lib.hid (bnext hB8.out hB9_)
        have hA9 := Lib.hid hB9_
        clear hB9_
        by_cases hx9 : x9 = 0
        case neg =>
          have dx9 : (x9 == 0) = false := by simpa using hx9
          clear hx9
          have hB11 := Lib.hid (bnext hB9.out (below_alloc (Below.refl _ w9) (.cells #[.int .i64 99, .string key, .int .i64 n2, .int .i64 lo] 108)))
          have hbW := block_below hA9.out hb8.out
          have x0 : w9.cell? ⟨w7.heap.size, 0, none⟩ = some (.int .i64 99) := by rw [block_cell hbW]; rfl
          have x1 : w9.cell? ⟨w7.heap.size, 1, none⟩ = some (.string key) := by rw [block_cell hbW]; rfl
          have x2 : w9.cell? ⟨w7.heap.size, 2, none⟩ = some (.int .i64 n2) := by rw [block_cell hbW]; rfl
          have x3 : w9.cell? ⟨w7.heap.size, 3, none⟩ = some (.int .i64 lo) := by rw [block_cell hbW]; rfl
          clear hbW
          go_wp2_with (at_builtin; refine list_of_wp rfl ?_; refine wp_append_row (.tmp 46) (.tmp 48) 29 rfl (p + 1) 108 _ 4 40 Tryz.underlying29 Tryz.infoOp rfl (by decide) (by decide) u6 k (opsC l) rfl (own_below hO7.out hB11.out) (some ⟨w9.heap.size, 0, none⟩) 1 1 (opC ⟨99, key, n2, lo⟩) rfl (fun h => by cases h) (Nat.le_refl _) rfl (RowAt.made rfl) (by simp [opC, Value.oneCell']) (by omega) (Nat.le_trans hP7.out hB11.out.size) ?_)
          intro v9 w12 hO12_ hg12_ _
          have hO12 := Lib.hid hO12_
          have hB12 := Lib.hid ((hB7.out.trans (Below.mono hB11.out hB7.out.size)).grown hg12_ (hB7.out.trans (Below.mono hB11.out hB7.out.size)).size (fun j hj => by have := own_ge hO7.out j hj; have := hpb.out; omega))
          have hI12 := Lib.hid ((hI7.out.later hB11.out).kept (Kept.of_grown hg12_) (fun j hj => ⟨by have := own_ge hO7.out j hj; omega, by obtain ⟨cur, hc⟩ := own_type hO7.out hj; exact ⟨_, _, _, block_below hB11.out hc, by decide, by decide, by decide, by decide⟩⟩))
          clear hO12_ hg12_ x0 x1 x2 x3
          go_wp2_with fail
          go_roundw
          case rel => exact ⟨k + 1, l ++ [⟨99, key, n2, lo⟩], by omega, by go_num, by simp [hLK.out], by rw [show opsC (l ++ [⟨99, key, n2, lo⟩]) = opsC l ++ opC ⟨99, key, n2, lo⟩ by simp [opsC]]; exact hO12.out, fun o ho => (List.mem_append.1 ho).elim (hOPS.out o) (fun h => by simp at h; subst h; exact hNEW.out), hI12.out, hB12.out⟩
          case measure => simp [intOf]; omega
        subst hx9
        have hb9 := block_below hA9.out hb8.out
        have x0 : w9.cell? ⟨w7.heap.size, 0, none⟩ = some (.int .i64 99) := by rw [block_cell hb9]; rfl
        have x1 : w9.cell? ⟨w7.heap.size, 1, none⟩ = some (.string key) := by rw [block_cell hb9]; rfl
        have x2 : w9.cell? ⟨w7.heap.size, 2, none⟩ = some (.int .i64 n2) := by rw [block_cell hb9]; rfl
        have x3 : w9.cell? ⟨w7.heap.size, 3, none⟩ = some (.int .i64 lo) := by rw [block_cell hb9]; rfl
        clear hb9
        go_wp2_with fail
        refine (opsMay_s ⟨99, key, n2, lo⟩ _ hk1.out).mono ?_
        rintro e w10 ⟨b, rfl, hB10_⟩
        have hB10 := Lib.hid (bnext hB9.out hB10_)
        have hA10 := Lib.hid (bnext hA9.out hB10_)
        clear hB10_ x0 x1 x2 x3
        cases b
        · go_wp2_with fail
          refine bodyPost_ret (v := .tuple #[.slice none 0 0, .int .i64 6]) ?_ rfl (DecS.bad 6 rfl (bnext hB7.out hB10.out))
          simp [results, Tryz.results71, go_sem]
        have hB11 := Lib.hid (bnext hB10.out (below_alloc (Below.refl _ w10) (.cells #[.int .i64 99, .string key, .int .i64 n2, .int .i64 lo] 108)))
        have hbW := block_below hA10.out hb8.out
        have x0 : w10.cell? ⟨w7.heap.size, 0, none⟩ = some (.int .i64 99) := by rw [block_cell hbW]; rfl
        have x1 : w10.cell? ⟨w7.heap.size, 1, none⟩ = some (.string key) := by rw [block_cell hbW]; rfl
        have x2 : w10.cell? ⟨w7.heap.size, 2, none⟩ = some (.int .i64 n2) := by rw [block_cell hbW]; rfl
        have x3 : w10.cell? ⟨w7.heap.size, 3, none⟩ = some (.int .i64 lo) := by rw [block_cell hbW]; rfl
        clear hbW
        go_wp2_with (at_builtin; refine list_of_wp rfl ?_; refine wp_append_row (.tmp 46) (.tmp 48) 29 rfl (p + 1) 108 _ 4 40 Tryz.underlying29 Tryz.infoOp rfl (by decide) (by decide) u6 k (opsC l) rfl (own_below hO7.out hB11.out) (some ⟨w10.heap.size, 0, none⟩) 1 1 (opC ⟨99, key, n2, lo⟩) rfl (fun h => by cases h) (Nat.le_refl _) rfl (RowAt.made rfl) (by simp [opC, Value.oneCell']) (by omega) (Nat.le_trans hP7.out hB11.out.size) ?_)
        intro v9 w12 hO12_ hg12_ _
        have hO12 := Lib.hid hO12_
        have hB12 := Lib.hid ((hB7.out.trans (Below.mono hB11.out hB7.out.size)).grown hg12_ (hB7.out.trans (Below.mono hB11.out hB7.out.size)).size (fun j hj => by have := own_ge hO7.out j hj; have := hpb.out; omega))
        have hI12 := Lib.hid ((hI7.out.later hB11.out).kept (Kept.of_grown hg12_) (fun j hj => ⟨by have := own_ge hO7.out j hj; omega, by obtain ⟨cur, hc⟩ := own_type hO7.out hj; exact ⟨_, _, _, block_below hB11.out hc, by decide, by decide, by decide, by decide⟩⟩))
        clear hO12_ hg12_ x0 x1 x2 x3
        go_wp2_with fail
        go_roundw
        case rel => exact ⟨k + 1, l ++ [⟨99, key, n2, lo⟩], by omega, by go_num, by simp [hLK.out], by rw [show opsC (l ++ [⟨99, key, n2, lo⟩]) = opsC l ++ opC ⟨99, key, n2, lo⟩ by simp [opsC]]; exact hO12.out, fun o ho => (List.mem_append.1 ho).elim (hOPS.out o) (fun h => by simp at h; subst h; exact hNEW.out), hI12.out, hB12.out⟩
        case measure => simp [intOf]; omega
      · refine (Str_s 16 p _ hI4.out (by omega)).mono ?_
        rintro e w5 ⟨key, rfl, hkey_, hI5_, hK5_⟩
        have hI5 := Lib.hid hI5_
        have hK5 := Lib.hid hK5_
        have hKY := Lib.hid hkey_
        clear hI5_ hK5_ hkey_
        go_wp2_with fail
        refine (Num_s p _ hI5.out).mono ?_
        rintro e w6 ⟨n2, rfl, hn2_, hI6_, hK6_⟩
        have hI6 := Lib.hid hI6_
        have hK6 := Lib.hid hK6_
        have hN2 := Lib.hid hn2_
        clear hI6_ hK6_ hn2_
        go_wp2_with fail
        refine (Num_s p _ hI6.out).mono ?_
        rintro e w7 ⟨lo, rfl, hlo_, hI7_, hK7_⟩
        have hKall : Kept (· = p) w3 w7 := ((hK4.out.trans hK5.out (fun _ _ h => h)).trans hK6.out (fun _ _ h => h)).trans hK7_ (fun _ _ h => h)
        have hI7 := Lib.hid hI7_
        have hB7 := Lib.hid (kept_below (bnext hB.out hB3.out) hKall (by rintro _ rfl; exact hpb.out))
        have hO7 := Lib.hid (own_kept (own_below hO.out hB3.out) hKall (by rintro j hj rfl; omega))
        have hP7 := Lib.hid (show p < w7.heap.size from hI7_.lt)
        have hNEW : Hid ((⟨kind, key, n2, lo⟩ : POp).ok ∧ (⟨kind, key, n2, lo⟩ : POp).key.size ≤ 16) := Lib.hid ⟨⟨⟨by show (-9223372036854775808 : Int) ≤ kind; omega, by show (kind : Int) ≤ 9223372036854775807; omega⟩, hN2.out, hlo_⟩, hKY.out⟩
        have hk1 : Hid (key.size ≤ 1000000) := Lib.hid (by have := hKY.out; omega)
        clear hKall hI7_ hK7_ hK4 hK5 hK6 hI4 hI5 hI6 hO hB3 hI hlo_ hN2 hKY
        have hb8 := Lib.hid (heap_alloc_new w7 (.cells #[.int .i64 kind, .string key, .int .i64 n2, .int .i64 lo] 108))
        have hB8 := Lib.hid (below_alloc (Below.refl _ w7) (.cells #[.int .i64 kind, .string key, .int .i64 n2, .int .i64 lo] 108))
        go_wp2_with fail
        generalize w7.alloc (.cells #[.int .i64 kind, .string key, .int .i64 n2, .int .i64 lo] 108) = W8 at *
        refine (Err_s p _ (hI7.out.later hB8.out) (hGG.out.below (bnext hB7.out hB8.out))).mono ?_
        rintro e w9 ⟨x9, rfl, hB9_⟩
        have hB9 := Lib.hid (bnext hB8.out hB9_)
        have hA9 := Lib.hid hB9_
        clear hB9_
        by_cases hx9 : x9 = 0
        case neg =>
          have dx9 : (x9 == 0) = false := by simpa using hx9
          clear hx9
          have hB11 := Lib.hid (bnext hB9.out (below_alloc (Below.refl _ w9) (.cells #[.int .i64 kind, .string key, .int .i64 n2, .int .i64 lo] 108)))
          have hbW := block_below hA9.out hb8.out
          have x0 : w9.cell? ⟨w7.heap.size, 0, none⟩ = some (.int .i64 kind) := by rw [block_cell hbW]; rfl
          have x1 : w9.cell? ⟨w7.heap.size, 1, none⟩ = some (.string key) := by rw [block_cell hbW]; rfl
          have x2 : w9.cell? ⟨w7.heap.size, 2, none⟩ = some (.int .i64 n2) := by rw [block_cell hbW]; rfl
          have x3 : w9.cell? ⟨w7.heap.size, 3, none⟩ = some (.int .i64 lo) := by rw [block_cell hbW]; rfl
          clear hbW
          go_wp2_with (at_builtin; refine list_of_wp rfl ?_; refine wp_append_row (.tmp 46) (.tmp 48) 29 rfl (p + 1) 108 _ 4 40 Tryz.underlying29 Tryz.infoOp rfl (by decide) (by decide) u6 k (opsC l) rfl (own_below hO7.out hB11.out) (some ⟨w9.heap.size, 0, none⟩) 1 1 (opC ⟨kind, key, n2, lo⟩) rfl (fun h => by cases h) (Nat.le_refl _) rfl (RowAt.made rfl) (by simp [opC, Value.oneCell']) (by omega) (Nat.le_trans hP7.out hB11.out.size) ?_)
          intro v9 w12 hO12_ hg12_ _
          have hO12 := Lib.hid hO12_
          have hB12 := Lib.hid ((hB7.out.trans (Below.mono hB11.out hB7.out.size)).grown hg12_ (hB7.out.trans (Below.mono hB11.out hB7.out.size)).size (fun j hj => by have := own_ge hO7.out j hj; have := hpb.out; omega))
          have hI12 := Lib.hid ((hI7.out.later hB11.out).kept (Kept.of_grown hg12_) (fun j hj => ⟨by have := own_ge hO7.out j hj; omega, by obtain ⟨cur, hc⟩ := own_type hO7.out hj; exact ⟨_, _, _, block_below hB11.out hc, by decide, by decide, by decide, by decide⟩⟩))
          clear hO12_ hg12_ x0 x1 x2 x3
          go_wp2_with fail
          go_roundw
          case rel => exact ⟨k + 1, l ++ [⟨kind, key, n2, lo⟩], by omega, by go_num, by simp [hLK.out], by rw [show opsC (l ++ [⟨kind, key, n2, lo⟩]) = opsC l ++ opC ⟨kind, key, n2, lo⟩ by simp [opsC]]; exact hO12.out, fun o ho => (List.mem_append.1 ho).elim (hOPS.out o) (fun h => by simp at h; subst h; exact hNEW.out), hI12.out, hB12.out⟩
          case measure => simp [intOf]; omega
        subst hx9
        have hb9 := block_below hA9.out hb8.out
        have x0 : w9.cell? ⟨w7.heap.size, 0, none⟩ = some (.int .i64 kind) := by rw [block_cell hb9]; rfl
        have x1 : w9.cell? ⟨w7.heap.size, 1, none⟩ = some (.string key) := by rw [block_cell hb9]; rfl
        have x2 : w9.cell? ⟨w7.heap.size, 2, none⟩ = some (.int .i64 n2) := by rw [block_cell hb9]; rfl
        have x3 : w9.cell? ⟨w7.heap.size, 3, none⟩ = some (.int .i64 lo) := by rw [block_cell hb9]; rfl
        clear hb9
        go_wp2_with fail
        refine (opsMay_s ⟨kind, key, n2, lo⟩ _ hk1.out).mono ?_
        rintro e w10 ⟨b, rfl, hB10_⟩
        have hB10 := Lib.hid (bnext hB9.out hB10_)
        have hA10 := Lib.hid (bnext hA9.out hB10_)
        clear hB10_ x0 x1 x2 x3
        cases b
        · go_wp2_with fail
          refine bodyPost_ret (v := .tuple #[.slice none 0 0, .int .i64 6]) ?_ rfl (DecS.bad 6 rfl (bnext hB7.out hB10.out))
          simp [results, Tryz.results71, go_sem]
        have hB11 := Lib.hid (bnext hB10.out (below_alloc (Below.refl _ w10) (.cells #[.int .i64 kind, .string key, .int .i64 n2, .int .i64 lo] 108)))
        have hbW := block_below hA10.out hb8.out
        have x0 : w10.cell? ⟨w7.heap.size, 0, none⟩ = some (.int .i64 kind) := by rw [block_cell hbW]; rfl
        have x1 : w10.cell? ⟨w7.heap.size, 1, none⟩ = some (.string key) := by rw [block_cell hbW]; rfl
        have x2 : w10.cell? ⟨w7.heap.size, 2, none⟩ = some (.int .i64 n2) := by rw [block_cell hbW]; rfl
        have x3 : w10.cell? ⟨w7.heap.size, 3, none⟩ = some (.int .i64 lo) := by rw [block_cell hbW]; rfl
        clear hbW
        go_wp2_with (at_builtin; refine list_of_wp rfl ?_; refine wp_append_row (.tmp 46) (.tmp 48) 29 rfl (p + 1) 108 _ 4 40 Tryz.underlying29 Tryz.infoOp rfl (by decide) (by decide) u6 k (opsC l) rfl (own_below hO7.out hB11.out) (some ⟨w10.heap.size, 0, none⟩) 1 1 (opC ⟨kind, key, n2, lo⟩) rfl (fun h => by cases h) (Nat.le_refl _) rfl (RowAt.made rfl) (by simp [opC, Value.oneCell']) (by omega) (Nat.le_trans hP7.out hB11.out.size) ?_)
        intro v9 w12 hO12_ hg12_ _
        have hO12 := Lib.hid hO12_
        have hB12 := Lib.hid ((hB7.out.trans (Below.mono hB11.out hB7.out.size)).grown hg12_ (hB7.out.trans (Below.mono hB11.out hB7.out.size)).size (fun j hj => by have := own_ge hO7.out j hj; have := hpb.out; omega))
        have hI12 := Lib.hid ((hI7.out.later hB11.out).kept (Kept.of_grown hg12_) (fun j hj => ⟨by have := own_ge hO7.out j hj; omega, by obtain ⟨cur, hc⟩ := own_type hO7.out hj; exact ⟨_, _, _, block_below hB11.out hc, by decide, by decide, by decide, by decide⟩⟩))
        clear hO12_ hg12_ x0 x1 x2 x3
        go_wp2_with fail
        go_roundw
        case rel => exact ⟨k + 1, l ++ [⟨kind, key, n2, lo⟩], by omega, by go_num, by simp [hLK.out], by rw [show opsC (l ++ [⟨kind, key, n2, lo⟩]) = opsC l ++ opC ⟨kind, key, n2, lo⟩ by simp [opsC]]; exact hO12.out, fun o ho => (List.mem_append.1 ho).elim (hOPS.out o) (fun h => by simp at h; subst h; exact hNEW.out), hI12.out, hB12.out⟩
        case measure => simp [intOf]; omega
    · have hkk : k = n := by omega
      have dk : decide (k < n) = false := by simpa using hlt
      go_wp2_with fail
      refine (End_s p _ hI.out (hGG.out.below hB.out)).mono ?_
      rintro e w9 ⟨x9, rfl, hI9_, hK9_⟩
      have hB9 := Lib.hid (kept_below hB.out hK9_ (by rintro _ rfl; exact hpb.out))
      have hO9 := Lib.hid (own_lower (own_kept hO.out hK9_ (by rintro j hj rfl; omega)) (show w.heap.size ≤ p + 1 by have := hpb.out; omega))
      clear hI9_ hK9_
      by_cases hx9 : x9 = 0
      case neg =>
        have dx9 : (x9 != 0) = true := by simpa using hx9
        go_wp2_with fail
        refine bodyPost_ret (v := .tuple #[.slice none 0 0, .int .i64 6]) ?_ rfl (DecS.bad 6 rfl hB9.out)
        simp [results, Tryz.results71, go_sem]
      subst hx9
      rw [← hLK.out] at hO9
      obtain ⟨A2, c2, rfl⟩ := own_slice hO9.out
      go_wp2_with fail
      refine bodyPost_ret (v := .tuple #[.slice A2 l.length c2, .int .i64 0]) ?_ rfl ⟨_, _, l, 0, rfl, hO9.out, by have := hLK.out; omega, hOPS.out, hB9.out⟩
      simp [results, Tryz.results71, go_sem]
end Go.Proofs.YteeiacfddjhhkaaGreatDoor
