/- errors.As at '&n', n a *fault.number, over the program's own chains; fault.Code is the number at a chain's end. -/
import Derived.Test.YteeiacfddjhhkaaGreatDoorAsFacts
namespace Go.Proofs.YteeiacfddjhhkaaGreatDoor
open Go.RowKit Go.Extern.Stop Go.Stop Go.Extern
set_option maxRecDepth 100000

/-- A chain of so many wraps. -/
inductive ErrD (w : World) : Value → Int → Nat → Prop
  | num (b : Nat) (e : Int) (h : w.heap[b]? = some (.cells #[.int .i64 e] 122 (0, 0))) : ErrD w (.iface 120 (.pointer (some ⟨b, 0, none⟩))) e 0
  | at_ (b : Nat) (x : Value) (p e : Int) (d : Nat) (h : w.heap[b]? = some (.cells #[x, .int .i64 p] 119 (0, 0))) (hx : ErrD w x e d) : ErrD w (.iface 115 (.pointer (some ⟨b, 0, none⟩))) e (d + 1)
  | bound (b : Nat) (x : Value) (l g e : Int) (d : Nat) (h : w.heap[b]? = some (.cells #[x, .int .i64 l, .int .i64 g] 141 (0, 0))) (hx : ErrD w x e d) : ErrD w (.iface 139 (.pointer (some ⟨b, 0, none⟩))) e (d + 1)
  | inn (b : Nat) (x : Value) (s : ByteArray) (e : Int) (d : Nat) (h : w.heap[b]? = some (.cells #[x, .string s] 204 (0, 0))) (hx : ErrD w x e d) : ErrD w (.iface 202 (.pointer (some ⟨b, 0, none⟩))) e (d + 1)
theorem ErrIs.depth {w : World} {v : Value} {e : Int} (h : ErrIs w v e) : ∃ d, ErrD w v e d := by
  induction h with
  | num b e h => exact ⟨0, .num b e h⟩
  | at_ b x p e h _ ih => obtain ⟨d, hd⟩ := ih; exact ⟨d + 1, .at_ b x p e d h hd⟩
  | bound b x l g e h _ ih => obtain ⟨d, hd⟩ := ih; exact ⟨d + 1, .bound b x l g e d h hd⟩
  | inn b x s e h _ ih => obtain ⟨d, hd⟩ := ih; exact ⟨d + 1, .inn b x s e d h hd⟩
theorem ErrD.later {w w' : World} {v : Value} {e : Int} {d : Nat} (h : ErrD w v e d) (hb : Below w.heap.size w w') : ErrD w' v e d := by
  induction h with
  | num b e h => exact .num b e (block_below hb h)
  | at_ b x p e d h _ ih => exact .at_ b x p e d (block_below hb h) ih
  | bound b x l g e d h _ ih => exact .bound b x l g e d (block_below hb h) ih
  | inn b x s e d h _ ih => exact .inn b x s e d (block_below hb h) ih
theorem ErrD.iface {w : World} {v : Value} {e : Int} {d : Nat} (h : ErrD w v e d) : ∃ T b, v = .iface T (.pointer (some ⟨b, 0, none⟩)) := by
  cases h <;> exact ⟨_, _, rfl⟩

/-- What errors.As leaves: the target holds the number's pointer; nothing else that was there has changed. -/
def AsHit (w : World) (tb : Nat) (e : Int) (en : Ending) (w' : World) : Prop := en = .returned (.bool true) ∧ ∃ b : Nat, w'.heap[tb]? = some (.cells #[.pointer (some ⟨b, 0, none⟩)] 120 (0, 0)) ∧ w'.heap[b]? = some (.cells #[.int .i64 e] 122 (0, 0)) ∧ Kept (fun k => k = tb) w w'

theorem unwrap_any (x : Value) (w : World) : Calls Tryz.prog 180 #[.agg #[x]] w fun en w' => en = .returned x ∧ Below w.heap.size w w' := by
  go_enter Tryz.func180, Tryz.ntmps180
  go_wp2_with fail
  go_ret
  exact ⟨rfl, below_alloc (Below.refl _ _) _⟩
set_option maxHeartbeats 4000000 in
theorem as_any (v : Value) (e : Int) (d : Nat) (a : Addr) (tb : Nat) (old : Value) (w : World) (h : ErrD w v e d) (ha : w.cell? a = some (.pointer (some ⟨tb, 0, none⟩))) (ht : w.heap[tb]? = some (.cells #[old] 120 (0, 0))) :
    Calls Tryz.prog 89 #[v, .iface 124 (.pointer (some ⟨tb, 0, none⟩)), .agg #[.pointer (some ⟨1, 124, none⟩), .pointer (some a), .int .u64 150], .iface 189 (.agg #[.pointer (some ⟨1, 120, none⟩)])] w (AsHit w tb e) := by
  have h10 := @run_callFunc_extern Tryz.prog 122 _ ReflectliteType.typeOf Tryz.func122 (by kernel_rfl) (by kernel_rfl) (by kernel_rfl) (by kernel_rfl)
  have h35 := @run_callFunc_extern Tryz.prog 187 _ (ReflectliteType.relation "AssignableTo" ReflectliteType.assignableTo) Tryz.func187 (by kernel_rfl) (by kernel_rfl) (by kernel_rfl) (by kernel_rfl)
  have h6 := @run_callFunc_extern Tryz.prog 86 _ (fun args => ReflectliteValue.unpack (args.getD 0 (.tuple #[]))) Tryz.func86 (by kernel_rfl) (by kernel_rfl) (by kernel_rfl) (by kernel_rfl)
  have h11 := @run_callFunc_extern Tryz.prog 123 _ (ReflectliteValue.method (ReflectliteValue.valueError "reflectlite.Value.Elem" 0) ReflectliteValue.elem) Tryz.func123 (by kernel_rfl) (by kernel_rfl) (by kernel_rfl) (by kernel_rfl)
  have h12 := @run_callFunc_extern Tryz.prog 124 _ ReflectliteValue.set Tryz.func124 (by kernel_rfl) (by kernel_rfl) (by kernel_rfl) (by kernel_rfl)
  have mA := Tryz.methodAssignableTo
  have tPN := Tryz.typeOfPN
  have tAT := Tryz.typeOfAT
  have tBO := Tryz.typeOfBO
  have tIN := Tryz.typeOfIN
  have aPN := Tryz.assignPN
  have aAT := Tryz.assignAT
  have aBO := Tryz.assignBO
  have aIN := Tryz.assignIN
  have vPN := Tryz.valueOfPN
  have hD := Lib.hid h
  clear h
  go_enter Tryz.func89, Tryz.ntmps89
  go_wp2_with fail
  have hw0 : Hid (Below (w.alloc (.cells #[.pointer (some ⟨1, 124, none⟩), .pointer (some a), .int .u64 150] 158)).heap.size (w.alloc (.cells #[.pointer (some ⟨1, 124, none⟩), .pointer (some a), .int .u64 150] 158)) (w.alloc (.cells #[.pointer (some ⟨1, 124, none⟩), .pointer (some a), .int .u64 150] 158))) := Below.refl _ _
  have hD0 := Lib.hid (hD.out.later (below_alloc (Below.refl _ _) (.cells #[.pointer (some ⟨1, 124, none⟩), .pointer (some a), .int .u64 150] 158)))
  have c0 : (w.alloc (.cells #[.pointer (some ⟨1, 124, none⟩), .pointer (some a), .int .u64 150] 158)).heap[w.heap.size]? = some (.cells #[.pointer (some ⟨1, 124, none⟩), .pointer (some a), .int .u64 150] 158 (0, 0)) := heap_alloc_new w _
  have c1 := Lib.hid c0
  clear c0
  have hbw := Lib.hid (below_alloc (Below.refl _ w) (.cells #[.pointer (some ⟨1, 124, none⟩), .pointer (some a), .int .u64 150] 158))
  generalize hW : w.alloc (.cells #[.pointer (some ⟨1, 124, none⟩), .pointer (some a), .int .u64 150] 158) = W at *
  clear hW
  go_loopg [0] d (fun k x wr => ErrD wr x e k ∧ Below W.heap.size W wr)
  case atStart => exact ⟨hD0.out, hw0.out⟩
  case round =>
    obtain ⟨hE, hB_⟩ := hrel
    have hB := Lib.hid hB_
    have hBw := Lib.hid (bnext hbw.out hB_)
    have x0 : wr.cell? ⟨w.heap.size, 0, none⟩ = some (.pointer (some ⟨1, 124, none⟩)) := by rw [block_cell (block_below hB_ c1.out)]; rfl
    have x1 : wr.cell? ⟨w.heap.size, 1, none⟩ = some (.pointer (some a)) := by rw [block_cell (block_below hB_ c1.out)]; rfl
    have x2 : wr.cell? ⟨w.heap.size, 2, none⟩ = some (.int .u64 150) := by rw [block_cell (block_below hB_ c1.out)]; rfl
    have ha2 := cell_below hBw.out ha
    have ht2 := block_below hBw.out ht
    have hT2 := Lib.hid ht2
    clear hB_ ht2
    cases hE with
    | num b _ hb =>
      have hNb := Lib.hid hb
      clear hb
      have el := Tryz.elemVPP a ⟨tb, 0, none⟩ wr ha2
      have hlt := lt_of_block hT2.out
      have hne : b ≠ tb := by
        intro hbt
        have h1 := hNb.out
        rw [hbt, hT2.out] at h1
        simp at h1
      have htb := block_below (below_alloc (Below.refl _ wr) (.cells #[.pointer (some ⟨b, 0, none⟩)] 120)) hT2.out
      have hnb := block_below (below_alloc (Below.refl _ wr) (.cells #[.pointer (some ⟨b, 0, none⟩)] 120)) hNb.out
      have st := Tryz.setPN ⟨tb, 0, none⟩ ⟨wr.heap.size, 0, none⟩ ⟨b, 0, none⟩ old (wr.alloc (.cells #[.pointer (some ⟨b, 0, none⟩)] 120)) (by simp) (by rw [block_cell htb]; rfl) (block_free htb 0)
      have hK := Lib.hid (((Kept.of_below (fun k => k = tb) hBw.out).alloc (.cells #[.pointer (some ⟨b, 0, none⟩)] 120)).setCell (p := ⟨tb, 0, none⟩) (.inl rfl) (.pointer (some ⟨b, 0, none⟩)))
      have hF1 := Lib.hid (block_setCell htb 0 (.pointer (some ⟨b, 0, none⟩)))
      have hF2 := Lib.hid ((Below.heap_setCell (wr.alloc (.cells #[.pointer (some ⟨b, 0, none⟩)] 120)) ⟨tb, 0, none⟩ (.pointer (some ⟨b, 0, none⟩)) b hne).trans hnb)
      clear htb hnb hlt hne
      go_wp2_with fail
      go_ret
      exact ⟨rfl, b, hF1.out, hF2.out, hK.out⟩
    | at_ b x p _ k hb hx =>
      have hX := Lib.hid hx
      have hcell : wr.cell? ⟨b, 0, none⟩ = some x := by rw [block_cell hb]; rfl
      obtain ⟨T, b2, rfl⟩ := hx.iface
      clear hx hb
      have n1 := Tryz.noAsAT
      have u1 := Tryz.hasUAT
      have nu := Tryz.nilUAT ⟨b, 0, none⟩
      have mu := Tryz.methUAT b _ wr hcell
      go_wp2_with fail
      refine (unwrap_any _ _).mono ?_
      rintro en w1 ⟨rfl, hB1⟩
      have hE1 := Lib.hid (hX.out.later hB1)
      have hBB := Lib.hid (bnext hB.out hB1)
      clear hB1
      go_wp2_with fail
      go_roundg k
      case measure => omega
      case rel => exact ⟨hE1.out, hBB.out⟩
    | bound b x l g _ k hb hx =>
      have hX := Lib.hid hx
      have hcell : wr.cell? ⟨b, 0, none⟩ = some x := by rw [block_cell hb]; rfl
      obtain ⟨T, b2, rfl⟩ := hx.iface
      clear hx hb
      have n1 := Tryz.noAsBO
      have u1 := Tryz.hasUBO
      have nu := Tryz.nilUBO ⟨b, 0, none⟩
      have mu := Tryz.methUBO b _ wr hcell
      go_wp2_with fail
      refine (unwrap_any _ _).mono ?_
      rintro en w1 ⟨rfl, hB1⟩
      have hE1 := Lib.hid (hX.out.later hB1)
      have hBB := Lib.hid (bnext hB.out hB1)
      clear hB1
      go_wp2_with fail
      go_roundg k
      case measure => omega
      case rel => exact ⟨hE1.out, hBB.out⟩
    | inn b x s _ k hb hx =>
      have hX := Lib.hid hx
      have hcell : wr.cell? ⟨b, 0, none⟩ = some x := by rw [block_cell hb]; rfl
      obtain ⟨T, b2, rfl⟩ := hx.iface
      clear hx hb
      have n1 := Tryz.noAsIN
      have u1 := Tryz.hasUIN
      have nu := Tryz.nilUIN ⟨b, 0, none⟩
      have mu := Tryz.methUIN b _ wr hcell
      go_wp2_with fail
      refine (unwrap_any _ _).mono ?_
      rintro en w1 ⟨rfl, hB1⟩
      have hE1 := Lib.hid (hX.out.later hB1)
      have hBB := Lib.hid (bnext hB.out hB1)
      clear hB1
      go_wp2_with fail
      go_roundg k
      case measure => omega
      case rel => exact ⟨hE1.out, hBB.out⟩

set_option maxHeartbeats 4000000 in
theorem As_any (v : Value) (e : Int) (d : Nat) (tb : Nat) (old : Value) (w : World) (h : ErrD w v e d) (ht : w.heap[tb]? = some (.cells #[old] 120 (0, 0))) (hG : GOk w) :
    Calls Tryz.prog 63 #[v, .iface 124 (.pointer (some ⟨tb, 0, none⟩))] w (AsHit w tb e) := by
  have h6 := @run_callFunc_extern Tryz.prog 86 _ (fun args => ReflectliteValue.unpack (args.getD 0 (.tuple #[]))) Tryz.func86 (by kernel_rfl) (by kernel_rfl) (by kernel_rfl) (by kernel_rfl)
  have h7 := @run_callFunc_extern Tryz.prog 87 _ (ReflectliteValue.methodAny (ReflectliteValue.valueError "reflectlite.Value.Type" 0) (fun t _ _ _ => ReflectliteType.toType t)) Tryz.func87 (by kernel_rfl) (by kernel_rfl) (by kernel_rfl) (by kernel_rfl)
  have h8 := @run_callFunc_extern Tryz.prog 88 _ (ReflectliteValue.method (ReflectliteValue.valueError "reflectlite.Value.IsNil" 0) ReflectliteValue.isNil) Tryz.func88 (by kernel_rfl) (by kernel_rfl) (by kernel_rfl) (by kernel_rfl)
  have h27 := @run_callFunc_extern Tryz.prog 176 _ (ReflectliteType.abiMethod fun t => do pure (.int .u8 (← Rtype.kind t))) Tryz.func176 (by kernel_rfl) (by kernel_rfl) (by kernel_rfl) (by kernel_rfl)
  have h37 := @run_callFunc_extern Tryz.prog 189 _ (ReflectliteType.method ReflectliteType.elem) Tryz.func189 (by kernel_rfl) (by kernel_rfl) (by kernel_rfl) (by kernel_rfl)
  have h38 := @run_callFunc_extern Tryz.prog 190 _ (ReflectliteType.relation "Implements" ReflectliteType.implements_) Tryz.func190 (by kernel_rfl) (by kernel_rfl) (by kernel_rfl) (by kernel_rfl)
  have f6 := Tryz.valueOfPP
  have f7 := Tryz.typePP
  have mK := Tryz.methodKind
  have mE := Tryz.methodElem
  have mI := Tryz.methodImplements
  have k27 := Tryz.kindPP
  have k25 := Tryz.kindPN
  have e27 := Tryz.elemPP
  have i25 := Tryz.implementsPN
  have n8 := Tryz.isNilPP ⟨w.heap.size, 0, none⟩ ⟨tb, 0, none⟩ ((w.alloc (.cells #[.pointer (some ⟨tb, 0, none⟩)] 124)).alloc (.cells #[.pointer (some ⟨1, 124, none⟩), .pointer (some ⟨w.heap.size, 0, none⟩), .int .u64 150] 158)) (by simp)
  have hg2 : GOk ((w.alloc (.cells #[.pointer (some ⟨tb, 0, none⟩)] 124)).alloc (.cells #[.pointer (some ⟨1, 124, none⟩), .pointer (some ⟨w.heap.size, 0, none⟩), .int .u64 150] 158)) := hG.below (below_alloc (below_alloc (Below.refl _ _) _) _)
  unfold GOk at hg2
  obtain ⟨T, b, rfl⟩ := h.iface
  have hB2 := below_alloc (below_alloc (Below.refl _ w) (.cells #[.pointer (some ⟨tb, 0, none⟩)] 124)) (.cells #[.pointer (some ⟨1, 124, none⟩), .pointer (some ⟨w.heap.size, 0, none⟩), .int .u64 150] 158)
  have hD2 := Lib.hid (h.later hB2)
  have ht2 := Lib.hid (block_below hB2 ht)
  have hBB := Lib.hid hB2
  have hca : ((w.alloc (.cells #[.pointer (some ⟨tb, 0, none⟩)] 124)).alloc (.cells #[.pointer (some ⟨1, 124, none⟩), .pointer (some ⟨w.heap.size, 0, none⟩), .int .u64 150] 158)).cell? ⟨w.heap.size, 0, none⟩ = some (.pointer (some ⟨tb, 0, none⟩)) := by
    rw [World.cell?_alloc_lt _ _ _ (by simp)]; simp
  have hCa := Lib.hid hca
  clear h hG hB2 hca ht
  go_enter Tryz.func63, Tryz.ntmps63
  go_wp2_with fail
  refine (as_any _ e d _ tb old _ hD2.out hCa.out ht2.out).mono ?_
  rintro en w1 ⟨rfl, b', h1_, h2_, h3_⟩
  have h1 := Lib.hid h1_
  have h2 := Lib.hid h2_
  have h3 := Lib.hid ((Kept.of_below _ hBB.out).trans h3_ (fun _ _ h => h))
  clear h1_ h2_ h3_
  go_wp2_with fail
  go_ret
  exact ⟨rfl, b', h1.out, h2.out, h3.out⟩

/-- fault.Code: the number at the end of the chain. -/
theorem code_err (v : Value) (e : Int) (w : World) (h : ErrIs w v e) (hG : GOk w) :
    Calls Tryz.prog 38 #[v] w fun en w' => en = .returned (.int .i64 e) ∧ Below w.heap.size w w' := by
  obtain ⟨d, hd⟩ := h.depth
  obtain ⟨T, b, rfl⟩ := h.iface
  have hB2 := below_alloc (Below.refl _ w) (.cells #[.pointer none] 120)
  have hD := Lib.hid (hd.later hB2)
  have hGg := Lib.hid (hG.below hB2)
  have hBB := Lib.hid hB2
  have hT := Lib.hid (heap_alloc_new w (.cells #[.pointer none] 120))
  clear h hd hG hB2
  go_enter Tryz.func38, Tryz.ntmps38
  go_wp2_with fail
  refine (As_any _ e d w.heap.size _ _ hD.out hT.out hGg.out).mono ?_
  rintro en w1 ⟨rfl, b', h1, h2, h3⟩
  have hK := Lib.hid ((Kept.of_below _ hBB.out).trans h3 (S' := fun k => k = w.heap.size) (S := fun k => k = w.heap.size) (fun _ _ h => h))
  have x1 : w1.cell? ⟨w.heap.size, 0, none⟩ = some (.pointer (some ⟨b', 0, none⟩)) := by rw [block_cell h1]; rfl
  have x2 : w1.cell? ⟨b', 0, none⟩ = some (.int .i64 e) := by rw [block_cell h2]; rfl
  clear h1 h2 h3
  go_wp2_with fail
  go_ret
  exact ⟨rfl, hK.out.to_below (Nat.le_refl _) (fun k hk => by omega)⟩
theorem code_ok (w : World) : Calls Tryz.prog 38 #[.nilIface] w fun en w' => en = .returned (.int .i64 0) ∧ Below w.heap.size w w' := by
  go_enter Tryz.func38, Tryz.ntmps38
  go_wp2_with fail
  go_ret
  exact ⟨rfl, below_alloc (Below.refl _ _) _⟩
end Go.Proofs.YteeiacfddjhhkaaGreatDoor
