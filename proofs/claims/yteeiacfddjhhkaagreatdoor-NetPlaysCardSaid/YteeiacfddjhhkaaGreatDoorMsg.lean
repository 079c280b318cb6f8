/- errors.As at the concrete target 'var n *fault.number': it finds the number at the end of a chain of the program's own errors. After the guide's worked text ToyasAs, its numbers turned, the chain's rounds added. errors.As at '&n', n a *fault.number, over the program's own chains; fault.Code is the number at a chain's end. Messages as plain data and as values; the small questions on them: within, known, way, bare. -/
import Derived.Test.YteeiacfddjhhkaaGreatDoorOpsCheck
import Derived.LaidEql
import Derived.Stop.Asserts
import Derived.RowKitTokens
import Derived.Deep.LoopGhost
namespace Go.Proofs.YteeiacfddjhhkaaGreatDoor
open Go.RowKit Go.Extern.Stop Go.Stop Go.Extern
set_option maxRecDepth 100000

/-- What the listed variable errors.errorType holds. -/
def GOk (w : World) : Prop := w.cell? ⟨0, 0, none⟩ = some (.iface 189 (.agg #[.pointer (some ⟨1, 79, none⟩)]))
theorem GOk.lt {w : World} (h : GOk w) : 0 < w.heap.size := World.block_lt_of_cell? w _ h
theorem GOk.below {w w' : World} (h : GOk w) (hb : Below w.heap.size w w') : GOk w' := cell_below hb h
theorem GOk.kept {S : Nat → Prop} {w w' : World} (h : GOk w) (hk : Kept S w w') (h0 : ¬ S 0) : GOk w' := (World.cell?_of_block (hk.block 0 h.lt h0)).trans h

theorem Tryz.valueOfPP (t : Addr) (w : World) : (ReflectliteValue.unpack (.iface 124 (.pointer (some t)))).run Tryz.prog w
    = .ok (.agg #[.pointer (some ⟨1, 124, none⟩), .pointer (some ⟨w.heap.size, 0, none⟩), .int .u64 150]) (w.alloc (.cells #[.pointer (some t)] 124)) := by kernel_rfl
theorem Tryz.typePP (a : Addr) (w : World) : (ReflectliteValue.methodAny (ReflectliteValue.valueError "reflectlite.Value.Type" 0) (fun t _ _ _ => ReflectliteType.toType t) #[.agg #[.pointer (some ⟨1, 124, none⟩), .pointer (some a), .int .u64 150]]).run Tryz.prog w
    = .ok (.iface 189 (.agg #[.pointer (some ⟨1, 124, none⟩)])) w := by kernel_rfl
theorem Tryz.methodKind (h : Value) (w : World) : (Go.method 361 189 (.agg #[h]) "Kind").run Tryz.prog w = .ok (176, h) w := by kernel_rfl
theorem Tryz.kindPP (w : World) : ((ReflectliteType.abiMethod fun t => (fun a : Nat => Value.int IntKind.u8 (a : Int)) <$> Rtype.kind t) #[.pointer (some ⟨1, 124, none⟩)]).run Tryz.prog w = .ok (.int .u8 22) w := by kernel_rfl
theorem Tryz.kindPN (w : World) : ((ReflectliteType.abiMethod fun t => (fun a : Nat => Value.int IntKind.u8 (a : Int)) <$> Rtype.kind t) #[.pointer (some ⟨1, 120, none⟩)]).run Tryz.prog w = .ok (.int .u8 22) w := by kernel_rfl
theorem rlm (z : Sem Value) (f : TypeId → Addr → Nat → Nat → Sem Value) (v : Value) :
    ReflectliteValue.method z f #[v] = (do match ← ReflectliteValue.parts v with | none => z | some (t, a, fl) => f t a fl (fl % 32)) := rfl
theorem Tryz.partsPP (a : Addr) (w : World) : (ReflectliteValue.parts (.agg #[.pointer (some ⟨1, 124, none⟩), .pointer (some a), .int .u64 150])).run Tryz.prog w = .ok (some (124, a, 150)) w := by kernel_rfl
theorem Tryz.isNilPP (a p : Addr) (W : World) (ha : W.cell? a = some (.pointer (some p))) :
    (ReflectliteValue.method (ReflectliteValue.valueError "reflectlite.Value.IsNil" 0) ReflectliteValue.isNil #[.agg #[.pointer (some ⟨1, 124, none⟩), .pointer (some a), .int .u64 150]]).run Tryz.prog W = .ok (.bool false) W := by
  rw [rlm]
  simp only [Sem.run_bind, Tryz.partsPP, Result.andThen]
  simp [ReflectliteValue.isNil, loadVar, isAgg, underlying, Tryz.underlying124, ha, Result.andThen]
theorem Tryz.methodElem (h : Value) (w : World) : (Go.method 361 189 (.agg #[h]) "Elem").run Tryz.prog w = .ok (189, .agg #[h]) w := by kernel_rfl
theorem Tryz.methodImplements (h : Value) (w : World) : (Go.method 361 189 (.agg #[h]) "Implements").run Tryz.prog w = .ok (190, .agg #[h]) w := by kernel_rfl
theorem Tryz.methodAssignableTo (h : Value) (w : World) : (Go.method 361 189 (.agg #[h]) "AssignableTo").run Tryz.prog w = .ok (187, .agg #[h]) w := by kernel_rfl
theorem Tryz.elemPP (w : World) : (ReflectliteType.method ReflectliteType.elem #[.agg #[.pointer (some ⟨1, 124, none⟩)]]).run Tryz.prog w = .ok (.iface 189 (.agg #[.pointer (some ⟨1, 120, none⟩)])) w := by kernel_rfl
theorem Tryz.implementsPN (w : World) : (ReflectliteType.relation "Implements" ReflectliteType.implements_ #[.agg #[.pointer (some ⟨1, 120, none⟩)], .iface 189 (.agg #[.pointer (some ⟨1, 79, none⟩)])]).run Tryz.prog w = .ok (.bool true) w := by kernel_rfl
theorem Tryz.valueOfPN (e : Addr) (w : World) : (ReflectliteValue.unpack (.iface 120 (.pointer (some e)))).run Tryz.prog w
    = .ok (.agg #[.pointer (some ⟨1, 120, none⟩), .pointer (some ⟨w.heap.size, 0, none⟩), .int .u64 150]) (w.alloc (.cells #[.pointer (some e)] 120)) := by kernel_rfl
theorem Tryz.elemOfPP (w : World) : (Rtype.elem? 124).run Tryz.prog w = .ok (some 120) w := by kernel_rfl
theorem Tryz.mkPN (p : Addr) (w : World) : (ReflectliteValue.mk 120 p ReflectliteValue.flagAddr).run Tryz.prog w = .ok (.agg #[.pointer (some ⟨1, 120, none⟩), .pointer (some p), .int .u64 406]) w := by kernel_rfl
theorem Tryz.elemVPP (a p : Addr) (W : World) (ha : W.cell? a = some (.pointer (some p))) :
    (ReflectliteValue.method (ReflectliteValue.valueError "reflectlite.Value.Elem" 0) ReflectliteValue.elem #[.agg #[.pointer (some ⟨1, 124, none⟩), .pointer (some a), .int .u64 150]]).run Tryz.prog W
      = .ok (.agg #[.pointer (some ⟨1, 120, none⟩), .pointer (some p), .int .u64 406]) W := by
  rw [rlm]
  simp only [Sem.run_bind, Tryz.partsPP, Result.andThen]
  simp [ReflectliteValue.elem, loadVar, isAgg, underlying, Tryz.underlying124, ha, Result.andThen, Tryz.elemOfPP, Tryz.mkPN]
theorem rls (v x : Value) : ReflectliteValue.set #[v, x] = (do
    let (some (dst, a, fl), some (src, b, _)) := (← ReflectliteValue.parts v, ← ReflectliteValue.parts x)
      | unsupported (.noEntry "extern/(internal/reflectlite.Value).Set.zeroValue")
    if fl / ReflectliteValue.flagAddr % 2 == 0 then unsupported (.noEntry "extern/(internal/reflectlite.Value).Set.unaddressable")
    let val ← loadVar src b
    if ← Rtype.directlyAssignable dst src then storeVar dst a val
    else if ← Rtype.implements dst src then
      if (← Rtype.kind src) == 20 then
        match val with
        | .nilIface => unsupported (.noEntry "extern/reflectlite: a nil value of one interface type handed on as a value of another")
        | _ => storeVar dst a val
      else storeVar dst a (.iface src val)
    else panicString ("reflectlite.Set: value of type " ++ (← Rtype.spelt src) ++ " is not assignable to type " ++ (← Rtype.spelt dst))
    pure (.tuple #[])) := rfl
theorem Tryz.partsPNa (a : Addr) (w : World) : (ReflectliteValue.parts (.agg #[.pointer (some ⟨1, 120, none⟩), .pointer (some a), .int .u64 406])).run Tryz.prog w = .ok (some (120, a, 406)) w := by kernel_rfl
theorem Tryz.partsPN (a : Addr) (w : World) : (ReflectliteValue.parts (.agg #[.pointer (some ⟨1, 120, none⟩), .pointer (some a), .int .u64 150])).run Tryz.prog w = .ok (some (120, a, 150)) w := by kernel_rfl
theorem Tryz.directPN (w : World) : (Rtype.directlyAssignable 120 120).run Tryz.prog w = .ok true w := by kernel_rfl
theorem Tryz.sizePN (w : World) : (sizeOf 120).run Tryz.prog w = .ok 1 w := by kernel_rfl
theorem Tryz.setPN (ta b e : Addr) (old : Value) (W : World) (hb : W.cell? b = some (.pointer (some e))) (ht : W.cell? ta = some old) (hf : W.frozen? ta = false) :
    (ReflectliteValue.set #[.agg #[.pointer (some ⟨1, 120, none⟩), .pointer (some ta), .int .u64 406], .agg #[.pointer (some ⟨1, 120, none⟩), .pointer (some b), .int .u64 150]]).run Tryz.prog W
      = .ok (.tuple #[]) (W.setCell ta (.pointer (some e))) := by
  rw [rls]
  simp only [Sem.run_bind, Tryz.partsPNa, Tryz.partsPN, Result.andThen]
  simp [ReflectliteValue.flagAddr, loadVar, isAgg, underlying, Tryz.underlying120, hb, Result.andThen, Tryz.directPN, storeVar, Value.cells, storeCells, Addr.add]
  rw [run_store Tryz.prog W ta _ _ (by rfl)]
  simp [ht, hf]
theorem Tryz.typeOfPN (v : Value) (w : World) : (ReflectliteType.typeOf #[.iface 120 v]).run Tryz.prog w = .ok (.iface 189 (.agg #[.pointer (some ⟨1, 120, none⟩)])) w := by kernel_rfl
theorem Tryz.assignPN (w : World) : (ReflectliteType.relation "AssignableTo" ReflectliteType.assignableTo #[.agg #[.pointer (some ⟨1, 120, none⟩)], .iface 189 (.agg #[.pointer (some ⟨1, 120, none⟩)])]).run Tryz.prog w = .ok (.bool true) w := by kernel_rfl
theorem Tryz.typeOfAT (v : Value) (w : World) : (ReflectliteType.typeOf #[.iface 115 v]).run Tryz.prog w = .ok (.iface 189 (.agg #[.pointer (some ⟨1, 115, none⟩)])) w := by kernel_rfl
theorem Tryz.assignAT (w : World) : (ReflectliteType.relation "AssignableTo" ReflectliteType.assignableTo #[.agg #[.pointer (some ⟨1, 115, none⟩)], .iface 189 (.agg #[.pointer (some ⟨1, 120, none⟩)])]).run Tryz.prog w = .ok (.bool false) w := by kernel_rfl
theorem Tryz.typeOfBO (v : Value) (w : World) : (ReflectliteType.typeOf #[.iface 139 v]).run Tryz.prog w = .ok (.iface 189 (.agg #[.pointer (some ⟨1, 139, none⟩)])) w := by kernel_rfl
theorem Tryz.assignBO (w : World) : (ReflectliteType.relation "AssignableTo" ReflectliteType.assignableTo #[.agg #[.pointer (some ⟨1, 139, none⟩)], .iface 189 (.agg #[.pointer (some ⟨1, 120, none⟩)])]).run Tryz.prog w = .ok (.bool false) w := by kernel_rfl
theorem Tryz.typeOfIN (v : Value) (w : World) : (ReflectliteType.typeOf #[.iface 202 v]).run Tryz.prog w = .ok (.iface 189 (.agg #[.pointer (some ⟨1, 202, none⟩)])) w := by kernel_rfl
theorem Tryz.assignIN (w : World) : (ReflectliteType.relation "AssignableTo" ReflectliteType.assignableTo #[.agg #[.pointer (some ⟨1, 202, none⟩)], .iface 189 (.agg #[.pointer (some ⟨1, 120, none⟩)])]).run Tryz.prog w = .ok (.bool false) w := by kernel_rfl
theorem sizeW (w : World) : (sizeOf 117).run Tryz.prog w = .ok 1 w := by kernel_rfl
theorem recv (b : Nat) (x : Value) (w : World) (h : w.cell? ⟨b, 0, none⟩ = some x) : (receiverAt 117 (.var ⟨b, 0, none⟩) false none).run Tryz.prog w = .ok (.agg #[x]) w := by
  simp [receiverAt, Place.get, underlying, Tryz.underlying117, loadVar, isAgg, sizeW, loadCells, loadCellsFrom, h, Addr.add, Result.andThen]
theorem meth_gen {P : Program} {fuel t f : Nat} {v r : Value} {w : World} {name : String} {path : Array FieldStep} {xt : TypeId} {x : Place} (hf : (P.info? t).map (fun i => (i.methods.find? (·.name == name)).map (fun m => (m.path, m.func))) = some (some (path, some (f, false))))
    (hw : (follow path.toList t (.val v)).run P w = .ok (xt, x) w) (hp : ¬ path = #[]) (hr : (receiverAt xt x false none).run P w = .ok r w) : (Go.method (fuel + 1) t v name).run P w = .ok (f, r) w := by
  obtain ⟨i, hi, h2⟩ := Option.map_eq_some_iff.1 hf
  obtain ⟨m, hm, h3⟩ := Option.map_eq_some_iff.1 h2
  simp only [Prod.mk.injEq] at h3
  obtain ⟨h4, h5⟩ := h3
  simp [Go.method, typeInfo, hi, hm, h4, h5, hw, hp, hr, Result.andThen]
theorem Tryz.noAsAT (v : Value) (xT : TypeId) (w : World) : (Instr.typeAssert (.iface 115 v) xT 194 true).run Tryz.prog w = .ok (.tuple #[.nilIface, .bool false]) w := run_typeAssert_lacksB Tryz.underlying194 (by kernel_rfl) (by kernel_rfl) v xT w
theorem Tryz.hasUAT (v : Value) (xT : TypeId) (w : World) : (Instr.typeAssert (.iface 115 v) xT 197 true).run Tryz.prog w = .ok (.tuple #[.iface 115 v, .bool true]) w := run_typeAssert_hasB Tryz.underlying197 (by kernel_rfl) v xT w
theorem Tryz.nilUAT (a : Addr) (w : World) : (nilAhead 361 115 (.pointer (some a)) "Unwrap").run Tryz.prog w = .ok (some false) w := by kernel_rfl
theorem Tryz.followAT (b : Nat) (w : World) : (follow [⟨119, 0, true⟩] 115 (.val (.pointer (some ⟨b, 0, none⟩)))).run Tryz.prog w = .ok (117, .var ⟨b, 0, none⟩) w := by kernel_rfl
theorem Tryz.findAT : (Tryz.prog.info? 115).map (fun i => (i.methods.find? (·.name == "Unwrap")).map (fun m => (m.path, m.func))) = some (some (#[⟨119, 0, true⟩], some (180, false))) := by kernel_rfl
theorem Tryz.methUAT (b : Nat) (x : Value) (w : World) (h : w.cell? ⟨b, 0, none⟩ = some x) : (Go.method 361 115 (.pointer (some ⟨b, 0, none⟩)) "Unwrap").run Tryz.prog w = .ok (180, .agg #[x]) w :=
  meth_gen (fuel := 360) Tryz.findAT (Tryz.followAT b w) (by simp) (recv b x w h)
theorem Tryz.noAsBO (v : Value) (xT : TypeId) (w : World) : (Instr.typeAssert (.iface 139 v) xT 194 true).run Tryz.prog w = .ok (.tuple #[.nilIface, .bool false]) w := run_typeAssert_lacksB Tryz.underlying194 (by kernel_rfl) (by kernel_rfl) v xT w
theorem Tryz.hasUBO (v : Value) (xT : TypeId) (w : World) : (Instr.typeAssert (.iface 139 v) xT 197 true).run Tryz.prog w = .ok (.tuple #[.iface 139 v, .bool true]) w := run_typeAssert_hasB Tryz.underlying197 (by kernel_rfl) v xT w
theorem Tryz.nilUBO (a : Addr) (w : World) : (nilAhead 361 139 (.pointer (some a)) "Unwrap").run Tryz.prog w = .ok (some false) w := by kernel_rfl
theorem Tryz.followBO (b : Nat) (w : World) : (follow [⟨141, 0, true⟩] 139 (.val (.pointer (some ⟨b, 0, none⟩)))).run Tryz.prog w = .ok (117, .var ⟨b, 0, none⟩) w := by kernel_rfl
theorem Tryz.findBO : (Tryz.prog.info? 139).map (fun i => (i.methods.find? (·.name == "Unwrap")).map (fun m => (m.path, m.func))) = some (some (#[⟨141, 0, true⟩], some (180, false))) := by kernel_rfl
theorem Tryz.methUBO (b : Nat) (x : Value) (w : World) (h : w.cell? ⟨b, 0, none⟩ = some x) : (Go.method 361 139 (.pointer (some ⟨b, 0, none⟩)) "Unwrap").run Tryz.prog w = .ok (180, .agg #[x]) w :=
  meth_gen (fuel := 360) Tryz.findBO (Tryz.followBO b w) (by simp) (recv b x w h)
theorem Tryz.noAsIN (v : Value) (xT : TypeId) (w : World) : (Instr.typeAssert (.iface 202 v) xT 194 true).run Tryz.prog w = .ok (.tuple #[.nilIface, .bool false]) w := run_typeAssert_lacksB Tryz.underlying194 (by kernel_rfl) (by kernel_rfl) v xT w
theorem Tryz.hasUIN (v : Value) (xT : TypeId) (w : World) : (Instr.typeAssert (.iface 202 v) xT 197 true).run Tryz.prog w = .ok (.tuple #[.iface 202 v, .bool true]) w := run_typeAssert_hasB Tryz.underlying197 (by kernel_rfl) v xT w
theorem Tryz.nilUIN (a : Addr) (w : World) : (nilAhead 361 202 (.pointer (some a)) "Unwrap").run Tryz.prog w = .ok (some false) w := by kernel_rfl
theorem Tryz.followIN (b : Nat) (w : World) : (follow [⟨204, 0, true⟩] 202 (.val (.pointer (some ⟨b, 0, none⟩)))).run Tryz.prog w = .ok (117, .var ⟨b, 0, none⟩) w := by kernel_rfl
theorem Tryz.findIN : (Tryz.prog.info? 202).map (fun i => (i.methods.find? (·.name == "Unwrap")).map (fun m => (m.path, m.func))) = some (some (#[⟨204, 0, true⟩], some (180, false))) := by kernel_rfl
theorem Tryz.methUIN (b : Nat) (x : Value) (w : World) (h : w.cell? ⟨b, 0, none⟩ = some x) : (Go.method 361 202 (.pointer (some ⟨b, 0, none⟩)) "Unwrap").run Tryz.prog w = .ok (180, .agg #[x]) w :=
  meth_gen (fuel := 360) Tryz.findIN (Tryz.followIN b w) (by simp) (recv b x w h)
end Go.Proofs.YteeiacfddjhhkaaGreatDoor
namespace Go.Proofs.YteeiacfddjhhkaaGreatDoor
open Go.RowKit Go.Extern.Stop Go.Stop Go.Extern
set_option maxRecDepth 100000

/-- A chain of so many wraps. -/
inductive ErrD (w : World) : Value → Int → Nat → Prop
  | num (b : Nat) (e : Int) (h : w.heap[b]? = some (.cells #[.int .i64 e] 122 (0, 0))) : ErrD w (.iface 120 (.pointer (some ⟨b, 0, none⟩))) e 0
  | at_ (b : Nat) (x : Value) (p e : Int) (d : Nat) (h : w.heap[b]? = some (.cells #[x, .int .i64 p] 119 (0, 0))) (hx : ErrD w x e d) : ErrD w (.iface 115 (.pointer (some ⟨b, 0, none⟩))) e (d + 1)
  | bound (b : Nat) (x : Value) (l g e : Int) (d : Nat) (h : w.heap[b]? = some (.cells #[x, .int .i64 l, .int .i64 g] 141 (0, 0))) (hx : ErrD w x e d) : ErrD w (.iface 139 (.pointer (some ⟨b, 0, none⟩))) e (d + 1)
  | inn (b : Nat) (x : Value) (s : ByteArray) (e : Int) (d : Nat) (h : w.heap[b]? = some (.cells #[x, .string s] 204 (0, 0))) (hx : ErrD w x e d) : ErrD w (.iface 202 (.pointer (some ⟨b, 0, none⟩))) e (d + 1)
theorem ErrIs.depth {w : World} {v : Value} {e : Int} (h : ErrIs w v e) : ∃ d, ErrD w v e d := by
  induction h with
  | num b e h => exact ⟨0, .num b e h⟩
  | at_ b x p e h _ ih => obtain ⟨d, hd⟩ := ih; exact ⟨d + 1, .at_ b x p e d h hd⟩
  | bound b x l g e h _ ih => obtain ⟨d, hd⟩ := ih; exact ⟨d + 1, .bound b x l g e d h hd⟩
  | inn b x s e h _ ih => obtain ⟨d, hd⟩ := ih; exact ⟨d + 1, .inn b x s e d h hd⟩
theorem ErrD.later {w w' : World} {v : Value} {e : Int} {d : Nat} (h : ErrD w v e d) (hb : Below w.heap.size w w') : ErrD w' v e d := by
  induction h with
  | num b e h => exact .num b e (block_below hb h)
  | at_ b x p e d h _ ih => exact .at_ b x p e d (block_below hb h) ih
  | bound b x l g e d h _ ih => exact .bound b x l g e d (block_below hb h) ih
  | inn b x s e d h _ ih => exact .inn b x s e d (block_below hb h) ih
theorem ErrD.iface {w : World} {v : Value} {e : Int} {d : Nat} (h : ErrD w v e d) : ∃ T b, v = .iface T (.pointer (some ⟨b, 0, none⟩)) := by
  cases h <;> exact ⟨_, _, rfl⟩

/-- What errors.As leaves: the target holds the number's pointer; nothing else that was there has changed. -/
def AsHit (w : World) (tb : Nat) (e : Int) (en : Ending) (w' : World) : Prop := en = .returned (.bool true) ∧ ∃ b : Nat, w'.heap[tb]? = some (.cells #[.pointer (some ⟨b, 0, none⟩)] 120 (0, 0)) ∧ w'.heap[b]? = some (.cells #[.int .i64 e] 122 (0, 0)) ∧ Kept (fun k => k = tb) w w'

theorem unwrap_any (x : Value) (w : World) : Calls Tryz.prog 180 #[.agg #[x]] w fun en w' => en = .returned x ∧ Below w.heap.size w w' := by
  go_enter Tryz.func180, Tryz.ntmps180
  go_wp2_with fail
  go_ret
  exact ⟨rfl, below_alloc (Below.refl _ _) _⟩
set_option maxHeartbeats 4000000 in
theorem as_any (v : Value) (e : Int) (d : Nat) (a : Addr) (tb : Nat) (old : Value) (w : World) (h : ErrD w v e d) (ha : w.cell? a = some (.pointer (some ⟨tb, 0, none⟩))) (ht : w.heap[tb]? = some (.cells #[old] 120 (0, 0))) :
    Calls Tryz.prog 89 #[v, .iface 124 (.pointer (some ⟨tb, 0, none⟩)), .agg #[.pointer (some ⟨1, 124, none⟩), .pointer (some a), .int .u64 150], .iface 189 (.agg #[.pointer (some ⟨1, 120, none⟩)])] w (AsHit w tb e) := by
  have h10 := @run_callFunc_extern Tryz.prog 122 _ ReflectliteType.typeOf Tryz.func122 (by kernel_rfl) (by kernel_rfl) (by kernel_rfl) (by kernel_rfl)
  have h35 := @run_callFunc_extern Tryz.prog 187 _ (ReflectliteType.relation "AssignableTo" ReflectliteType.assignableTo) Tryz.func187 (by kernel_rfl) (by kernel_rfl) (by kernel_rfl) (by kernel_rfl)
  have h6 := @run_callFunc_extern Tryz.prog 86 _ (fun args => ReflectliteValue.unpack (args.getD 0 (.tuple #[]))) Tryz.func86 (by kernel_rfl) (by kernel_rfl) (by kernel_rfl) (by kernel_rfl)
  have h11 := @run_callFunc_extern Tryz.prog 123 _ (ReflectliteValue.method (ReflectliteValue.valueError "reflectlite.Value.Elem" 0) ReflectliteValue.elem) Tryz.func123 (by kernel_rfl) (by kernel_rfl) (by kernel_rfl) (by kernel_rfl)
  have h12 := @run_callFunc_extern Tryz.prog 124 _ ReflectliteValue.set Tryz.func124 (by kernel_rfl) (by kernel_rfl) (by kernel_rfl) (by kernel_rfl)
  have mA := Tryz.methodAssignableTo
  have tPN := Tryz.typeOfPN
  have tAT := Tryz.typeOfAT
  have tBO := Tryz.typeOfBO
  have tIN := Tryz.typeOfIN
  have aPN := Tryz.assignPN
  have aAT := Tryz.assignAT
  have aBO := Tryz.assignBO
  have aIN := Tryz.assignIN
  have vPN := Tryz.valueOfPN
  have hD := Lib.hid h
  clear h
  go_enter Tryz.func89, Tryz.ntmps89
  go_wp2_with fail
  have hw0 : Hid (Below (w.alloc (.cells #[.pointer (some ⟨1, 124, none⟩), .pointer (some a), .int .u64 150] 158)).heap.size (w.alloc (.cells #[.pointer (some ⟨1, 124, none⟩), .pointer (some a), .int .u64 150] 158)) (w.alloc (.cells #[.pointer (some ⟨1, 124, none⟩), .pointer (some a), .int .u64 150] 158))) := Below.refl _ _
  have hD0 := Lib.hid (hD.out.later (below_alloc (Below.refl _ _) (.cells #[.pointer (some ⟨1, 124, none⟩), .pointer (some a), .int .u64 150] 158)))
  have c0 : (w.alloc (.cells #[.pointer (some ⟨1, 124, none⟩), .pointer (some a), .int .u64 150] 158)).heap[w.heap.size]? = some (.cells #[.pointer (some ⟨1, 124, none⟩), .pointer (some a), .int .u64 150] 158 (0, 0)) := heap_alloc_new w _
  have c1 := Lib.hid c0
  clear c0
  have hbw := Lib.hid (below_alloc (Below.refl _ w) (.cells #[.pointer (some ⟨1, 124, none⟩), .pointer (some a), .int .u64 150] 158))
  generalize hW : w.alloc (.cells #[.pointer (some ⟨1, 124, none⟩), .pointer (some a), .int .u64 150] 158) = W at *
  clear hW
  go_loopg [0] d (fun k x wr => ErrD wr x e k ∧ Below W.heap.size W wr)
  case atStart => exact ⟨hD0.out, hw0.out⟩
  case round =>
    obtain ⟨hE, hB_⟩ := hrel
    have hB := Lib.hid hB_
    have hBw := Lib.hid (bnext hbw.out hB_)
    have x0 : wr.cell? ⟨w.heap.size, 0, none⟩ = some (.pointer (some ⟨1, 124, none⟩)) := by rw [block_cell (block_below hB_ c1.out)]; rfl
    have x1 : wr.cell? ⟨w.heap.size, 1, none⟩ = some (.pointer (some a)) := by rw [block_cell (block_below hB_ c1.out)]; rfl
    have x2 : wr.cell? ⟨w.heap.size, 2, none⟩ = some (.int .u64 150) := by rw [block_cell (block_below hB_ c1.out)]; rfl
    have ha2 := cell_below hBw.out ha
    have ht2 := block_below hBw.out ht
    have hT2 := Lib.hid ht2
    clear hB_ ht2
    cases hE with
    | num b _ hb =>
      have hNb := Lib.hid hb
      clear hb
      have el := Tryz.elemVPP a ⟨tb, 0, none⟩ wr ha2
      have hlt := lt_of_block hT2.out
      have hne : b ≠ tb := by
        intro hbt
        have h1 := hNb.out
        rw [hbt, hT2.out] at h1
        simp at h1
      have htb := block_below (below_alloc (Below.refl _ wr) (.cells #[.pointer (some ⟨b, 0, none⟩)] 120)) hT2.out
      have hnb := block_below (below_alloc (Below.refl _ wr) (.cells #[.pointer (some ⟨b, 0, none⟩)] 120)) hNb.out
      have st := Tryz.setPN ⟨tb, 0, none⟩ ⟨wr.heap.size, 0, none⟩ ⟨b, 0, none⟩ old (wr.alloc (.cells #[.pointer (some ⟨b, 0, none⟩)] 120)) (by simp) (by rw [block_cell htb]; rfl) (block_free htb 0)
      have hK := Lib.hid (((Kept.of_below (fun k => k = tb) hBw.out).alloc (.cells #[.pointer (some ⟨b, 0, none⟩)] 120)).setCell (p := ⟨tb, 0, none⟩) (.inl rfl) (.pointer (some ⟨b, 0, none⟩)))
      have hF1 := Lib.hid (block_setCell htb 0 (.pointer (some ⟨b, 0, none⟩)))
      have hF2 := Lib.hid ((Below.heap_setCell (wr.alloc (.cells #[.pointer (some ⟨b, 0, none⟩)] 120)) ⟨tb, 0, none⟩ (.pointer (some ⟨b, 0, none⟩)) b hne).trans hnb)
      clear htb hnb hlt hne
      go_wp2_with fail
      go_ret
      exact ⟨rfl, b, hF1.out, hF2.out, hK.out⟩
    | at_ b x p _ k hb hx =>
      have hX := Lib.hid hx
      have hcell : wr.cell? ⟨b, 0, none⟩ = some x := by rw [block_cell hb]; rfl
      obtain ⟨T, b2, rfl⟩ := hx.iface
      clear hx hb
      have n1 := Tryz.noAsAT
      have u1 := Tryz.hasUAT
      have nu := Tryz.nilUAT ⟨b, 0, none⟩
      have mu := Tryz.methUAT b _ wr hcell
      go_wp2_with fail
      refine (unwrap_any _ _).mono ?_
      rintro en w1 ⟨rfl, hB1⟩
      have hE1 := Lib.hid (hX.out.later hB1)
      have hBB := Lib.hid (bnext hB.out hB1)
      clear hB1
      go_wp2_with fail
      go_roundg k
      case measure => omega
      case rel => exact ⟨hE1.out, hBB.out⟩
    | bound b x l g _ k hb hx =>
      have hX := Lib.hid hx
      have hcell : wr.cell? ⟨b, 0, none⟩ = some x := by rw [block_cell hb]; rfl
      obtain ⟨T, b2, rfl⟩ := hx.iface
      clear hx hb
      have n1 := Tryz.noAsBO
      have u1 := Tryz.hasUBO
      have nu := Tryz.nilUBO ⟨b, 0, none⟩
      have mu := Tryz.methUBO b _ wr hcell
      go_wp2_with fail
      refine (unwrap_any _ _).mono ?_
      rintro en w1 ⟨rfl, hB1⟩
      have hE1 := Lib.hid (hX.out.later hB1)
      have hBB := Lib.hid (bnext hB.out hB1)
      clear hB1
      go_wp2_with fail
      go_roundg k
      case measure => omega
      case rel => exact ⟨hE1.out, hBB.out⟩
    | inn b x s _ k hb hx =>
      have hX := Lib.hid hx
      have hcell : wr.cell? ⟨b, 0, none⟩ = some x := by rw [block_cell hb]; rfl
      obtain ⟨T, b2, rfl⟩ := hx.iface
      clear hx hb
      have n1 := Tryz.noAsIN
      have u1 := Tryz.hasUIN
      have nu := Tryz.nilUIN ⟨b, 0, none⟩
      have mu := Tryz.methUIN b _ wr hcell
      go_wp2_with fail
      refine (unwrap_any _ _).mono ?_
      rintro en w1 ⟨rfl, hB1⟩
      have hE1 := Lib.hid (hX.out.later hB1)
      have hBB := Lib.hid (bnext hB.out hB1)
      clear hB1
      go_wp2_with fail
      go_roundg k
      case measure => omega
      case rel => exact ⟨hE1.out, hBB.out⟩

set_option maxHeartbeats 4000000 in
theorem As_any (v : Value) (e : Int) (d : Nat) (tb : Nat) (old : Value) (w : World) (h : ErrD w v e d) (ht : w.heap[tb]? = some (.cells #[old] 120 (0, 0))) (hG : GOk w) :
    Calls Tryz.prog 63 #[v, .iface 124 (.pointer (some ⟨tb, 0, none⟩))] w (AsHit w tb e) := by
  have h6 := @run_callFunc_extern Tryz.prog 86 _ (fun args => ReflectliteValue.unpack (args.getD 0 (.tuple #[]))) Tryz.func86 (by kernel_rfl) (by kernel_rfl) (by kernel_rfl) (by kernel_rfl)
  have h7 := @run_callFunc_extern Tryz.prog 87 _ (ReflectliteValue.methodAny (ReflectliteValue.valueError "reflectlite.Value.Type" 0) (fun t _ _ _ => ReflectliteType.toType t)) Tryz.func87 (by kernel_rfl) (by kernel_rfl) (by kernel_rfl) (by kernel_rfl)
  have h8 := @run_callFunc_extern Tryz.prog 88 _ (ReflectliteValue.method (ReflectliteValue.valueError "reflectlite.Value.IsNil" 0) ReflectliteValue.isNil) Tryz.func88 (by kernel_rfl) (by kernel_rfl) (by kernel_rfl) (by kernel_rfl)
  have h27 := @run_callFunc_extern Tryz.prog 176 _ (ReflectliteType.abiMethod fun t => do pure (.int .u8 (← Rtype.kind t))) Tryz.func176 (by kernel_rfl) (by kernel_rfl) (by kernel_rfl) (by kernel_rfl)
  have h37 := @run_callFunc_extern Tryz.prog 189 _ (ReflectliteType.method ReflectliteType.elem) Tryz.func189 (by kernel_rfl) (by kernel_rfl) (by kernel_rfl) (by kernel_rfl)
  have h38 := @run_callFunc_extern Tryz.prog 190 _ (ReflectliteType.relation "Implements" ReflectliteType.implements_) Tryz.func190 (by kernel_rfl) (by kernel_rfl) (by kernel_rfl) (by kernel_rfl)
  have f6 := Tryz.valueOfPP
  have f7 := Tryz.typePP
  have mK := Tryz.methodKind
  have mE := Tryz.methodElem
  have mI := Tryz.methodImplements
  have k27 := Tryz.kindPP
  have k25 := Tryz.kindPN
  have e27 := Tryz.elemPP
  have i25 := Tryz.implementsPN
  have n8 := Tryz.isNilPP ⟨w.heap.size, 0, none⟩ ⟨tb, 0, none⟩ ((w.alloc (.cells #[.pointer (some ⟨tb, 0, none⟩)] 124)).alloc (.cells #[.pointer (some ⟨1, 124, none⟩), .pointer (some ⟨w.heap.size, 0, none⟩), .int .u64 150] 158)) (by simp)
  have hg2 : GOk ((w.alloc (.cells #[.pointer (some ⟨tb, 0, none⟩)] 124)).alloc (.cells #[.pointer (some ⟨1, 124, none⟩), .pointer (some ⟨w.heap.size, 0, none⟩), .int .u64 150] 158)) := hG.below (below_alloc (below_alloc (Below.refl _ _) _) _)
  unfold GOk at hg2
  obtain ⟨T, b, rfl⟩ := h.iface
  have hB2 := below_alloc (below_alloc (Below.refl _ w) (.cells #[.pointer (some ⟨tb, 0, none⟩)] 124)) (.cells #[.pointer (some ⟨1, 124, none⟩), .pointer (some ⟨w.heap.size, 0, none⟩), .int .u64 150] 158)
  have hD2 := Lib.hid (h.later hB2)
  have ht2 := Lib.hid (block_below hB2 ht)
  have hBB := Lib.hid hB2
  have hca : ((w.alloc (.cells #[.pointer (some ⟨tb, 0, none⟩)] 124)).alloc (.cells #[.pointer (some ⟨1, 124, none⟩), .pointer (some ⟨w.heap.size, 0, none⟩), .int .u64 150] 158)).cell? ⟨w.heap.size, 0, none⟩ = some (.pointer (some ⟨tb, 0, none⟩)) := by
    rw [World.cell?_alloc_lt _ _ _ (by simp)]; simp
  have hCa := Lib.hid hca
  clear h hG hB2 hca ht
  go_enter Tryz.func63, Tryz.ntmps63
  go_wp2_with fail
  refine (as_any _ e d _ tb old _ hD2.out hCa.out ht2.out).mono ?_
  rintro en w1 ⟨rfl, b', h1_, h2_, h3_⟩
  have h1 := Lib.hid h1_
  have h2 := Lib.hid h2_
  have h3 := Lib.hid ((Kept.of_below _ hBB.out).trans h3_ (fun _ _ h => h))
  clear h1_ h2_ h3_
  go_wp2_with fail
  go_ret
  exact ⟨rfl, b', h1.out, h2.out, h3.out⟩

/-- fault.Code: the number at the end of the chain. -/
theorem code_err (v : Value) (e : Int) (w : World) (h : ErrIs w v e) (hG : GOk w) :
    Calls Tryz.prog 38 #[v] w fun en w' => en = .returned (.int .i64 e) ∧ Below w.heap.size w w' := by
  obtain ⟨d, hd⟩ := h.depth
  obtain ⟨T, b, rfl⟩ := h.iface
  have hB2 := below_alloc (Below.refl _ w) (.cells #[.pointer none] 120)
  have hD := Lib.hid (hd.later hB2)
  have hGg := Lib.hid (hG.below hB2)
  have hBB := Lib.hid hB2
  have hT := Lib.hid (heap_alloc_new w (.cells #[.pointer none] 120))
  clear h hd hG hB2
  go_enter Tryz.func38, Tryz.ntmps38
  go_wp2_with fail
  refine (As_any _ e d w.heap.size _ _ hD.out hT.out hGg.out).mono ?_
  rintro en w1 ⟨rfl, b', h1, h2, h3⟩
  have hK := Lib.hid ((Kept.of_below _ hBB.out).trans h3 (S' := fun k => k = w.heap.size) (S := fun k => k = w.heap.size) (fun _ _ h => h))
  have x1 : w1.cell? ⟨w.heap.size, 0, none⟩ = some (.pointer (some ⟨b', 0, none⟩)) := by rw [block_cell h1]; rfl
  have x2 : w1.cell? ⟨b', 0, none⟩ = some (.int .i64 e) := by rw [block_cell h2]; rfl
  clear h1 h2 h3
  go_wp2_with fail
  go_ret
  exact ⟨rfl, hK.out.to_below (Nat.le_refl _) (fun k hk => by omega)⟩
theorem code_ok (w : World) : Calls Tryz.prog 38 #[.nilIface] w fun en w' => en = .returned (.int .i64 0) ∧ Below w.heap.size w w' := by
  go_enter Tryz.func38, Tryz.ntmps38
  go_wp2_with fail
  go_ret
  exact ⟨rfl, below_alloc (Below.refl _ _) _⟩
end Go.Proofs.YteeiacfddjhhkaaGreatDoor
namespace Go.Proofs.YteeiacfddjhhkaaGreatDoor
open Go.RowKit
set_option maxRecDepth 100000

theorem opsCheckE_any (A : Option Addr) (c : Nat) (l : List POp) (w : World) (hr : RowAt w A (opsC l)) (hl : l.length ≤ 1000000) (hk : ∀ o ∈ l, o.key.size ≤ 1000000) (hG : GOk w) :
    Calls Tryz.prog 102 #[.slice A l.length c] w fun e w' => e = .returned (.int .i64 (checkO l)) ∧ Below w.heap.size w w' := by
  have hGG := Lib.hid hG
  clear hG
  go_enter Tryz.func102, Tryz.ntmps102
  go_wp2_with fail
  refine (opsCheck_any A c l _ hr hl hk).mono ?_
  rintro e w1 (⟨h0, rfl, hB⟩ | ⟨h0, T, b, rfl, hE, hB⟩)
  · have hB1 := Lib.hid hB
    have hC := Lib.hid h0
    clear hB h0
    go_wp2_with fail
    refine (code_ok _).mono ?_
    rintro e w2 ⟨rfl, hB2⟩
    have hBB := Lib.hid (bnext hB1.out hB2)
    clear hB2
    go_wp2_with fail
    go_ret
    exact ⟨ret_int hC.out.symm, hBB.out⟩
  · have hB1 := Lib.hid hB
    have hC := Lib.hid h0
    have hE' := Lib.hid hE
    have hG2 := Lib.hid (hGG.out.below hB)
    clear hB h0 hE
    go_wp2_with fail
    refine (code_err _ _ _ hE'.out hG2.out).mono ?_
    rintro e w2 ⟨rfl, hB2⟩
    have hBB := Lib.hid (bnext hB1.out hB2)
    clear hB2
    go_wp2_with fail
    go_ret
    exact ⟨rfl, hBB.out⟩

def withinB (n lo hi : Int) : Bool := decide (n ≥ lo) && decide (n ≤ hi)
theorem within_any (n lo hi : Int) (w : World) : Calls Tryz.prog 101 #[.int .i64 n, .int .i64 lo, .int .i64 hi] w fun e w' => e = .returned (.bool (withinB n lo hi)) ∧ w = w' := by
  by_cases h : lo ≤ n
  · have hd : decide (lo ≤ n) = true := decide_eq_true h
    go_enter Tryz.func101, Tryz.ntmps101
    go_wp2_with fail
    go_ret
    exact ⟨ret_bool (by simp [withinB, h]), rfl⟩
  · have hd : decide (lo ≤ n) = false := decide_eq_false h
    go_enter Tryz.func101, Tryz.ntmps101
    go_wp2_with fail
    go_ret
    exact ⟨ret_bool (by simp [withinB]; omega), rfl⟩

/-- A message. -/
structure PMsg where
  kind : Int
  from_ : Int
  to_ : Int
  g : Int
  node : Int
  try_ : Int
  low : Int
  code : Int
  ticket : Int
  told : List Int
  ops : List POp
def msgA (m : PMsg) (A : Option Addr) (c : Nat) (B : Option Addr) (d : Nat) : Array Value := #[.int .i64 m.kind, .int .i64 m.from_, .int .i64 m.to_, .int .i64 m.g, .int .i64 m.node, .int .i64 m.try_, .int .i64 m.low, .int .i64 m.code, .int .i64 m.ticket, .slice A m.told.length c, .slice B m.ops.length d]
def knownM (m : PMsg) : Bool := withinB m.kind 1 4 || withinB m.kind 11 16
def wayM (m : PMsg) : Bool := if m.kind ≤ 4 then m.from_ == 0 && withinB m.to_ 1 3 else m.to_ == 0 && withinB m.from_ 1 3
def bareM (m : PMsg) : PMsg :=
  if m.kind == 1 || m.kind == 4 then { m with try_ := 0, low := 0, ops := [] }
  else if m.kind == 2 then { m with try_ := 0, low := 0 }
  else if m.kind == 3 then { m with low := 0 }
  else if m.kind == 11 then { m with try_ := 0, ticket := 0, told := [] }
  else if m.kind == 12 || m.kind == 14 then { m with try_ := 0, code := 0 }
  else m
def nothingM (m : PMsg) : Bool := m.try_ == 0 && m.low == 0 && m.code == 0 && m.ticket == 0 && m.told.length + m.ops.length == 0
def mayM (m : PMsg) : Bool :=
  knownM m && wayM m && withinB m.g 1 1048576 && withinB m.node 0 255 && withinB m.try_ 0 1048576 && (!decide (m.kind ≤ 4) || withinB m.low 1 1048577) &&
    (!(m.kind == 12 || m.kind == 14) || withinB m.code 1 99) && !decide (m.ticket < 0) && !decide (8 < m.told.length) && checkO m.ops == 0 && nothingM (bareM m)

theorem known_any (m : PMsg) (A : Option Addr) (c : Nat) (B : Option Addr) (d : Nat) (w : World) :
    Calls Tryz.prog 98 #[.agg (msgA m A c B d)] w fun e w' => e = .returned (.bool (knownM m)) ∧ Below w.heap.size w w' := by
  obtain ⟨kind, from_, to_, g, node, try_, low, code, ticket, told, ops⟩ := m
  unfold msgA
  simp only
  have hk : Hid (knownM ⟨kind, from_, to_, g, node, try_, low, code, ticket, told, ops⟩ = (withinB kind 1 4 || withinB kind 11 16)) := Lib.hid rfl
  go_enter Tryz.func98, Tryz.ntmps98
  go_wp2_with fail
  refine (within_any _ _ _ _).mono ?_
  rintro e w1 ⟨rfl, rfl⟩
  cases hw : withinB kind 1 4
  · rw [hw] at hk
    clear hw
    go_wp2_with fail
    refine (within_any _ _ _ _).mono ?_
    rintro e w2 ⟨rfl, rfl⟩
    go_wp2_with fail
    go_ret
    exact ⟨ret_bool (by rw [hk.out]; simp), below_alloc (Below.refl _ _) _⟩
  · rw [hw] at hk
    clear hw
    go_wp2_with fail
    go_ret
    exact ⟨ret_bool (by rw [hk.out]; simp), below_alloc (Below.refl _ _) _⟩
theorem way_any (m : PMsg) (A : Option Addr) (c : Nat) (B : Option Addr) (d : Nat) (w : World) :
    Calls Tryz.prog 99 #[.agg (msgA m A c B d)] w fun e w' => e = .returned (.bool (wayM m)) ∧ Below w.heap.size w w' := by
  obtain ⟨kind, from_, to_, g, node, try_, low, code, ticket, told, ops⟩ := m
  unfold msgA
  simp only
  have hk : Hid (wayM ⟨kind, from_, to_, g, node, try_, low, code, ticket, told, ops⟩ = if kind ≤ 4 then from_ == 0 && withinB to_ 1 3 else to_ == 0 && withinB from_ 1 3) := Lib.hid rfl
  by_cases hk4 : kind ≤ 4
  · rw [if_pos hk4] at hk
    cases hf : (from_ == 0)
    · rw [hf] at hk
      go_enter Tryz.func99, Tryz.ntmps99
      go_wp2_with fail
      go_ret
      exact ⟨ret_bool (by rw [hk.out]; simp), below_alloc (Below.refl _ _) _⟩
    · rw [hf] at hk
      go_enter Tryz.func99, Tryz.ntmps99
      go_wp2_with fail
      refine (within_any _ _ _ _).mono ?_
      rintro e w2 ⟨rfl, rfl⟩
      go_wp2_with fail
      go_ret
      exact ⟨ret_bool (by rw [hk.out]; simp), below_alloc (Below.refl _ _) _⟩
  · rw [if_neg hk4] at hk
    cases hf : (to_ == 0)
    · rw [hf] at hk
      go_enter Tryz.func99, Tryz.ntmps99
      go_wp2_with fail
      go_ret
      exact ⟨ret_bool (by rw [hk.out]; simp), below_alloc (Below.refl _ _) _⟩
    · rw [hf] at hk
      go_enter Tryz.func99, Tryz.ntmps99
      go_wp2_with fail
      refine (within_any _ _ _ _).mono ?_
      rintro e w2 ⟨rfl, rfl⟩
      go_wp2_with fail
      go_ret
      exact ⟨ret_bool (by rw [hk.out]; simp), below_alloc (Below.refl _ _) _⟩

/-- The two slices of a bare message. -/
def bareA (m : PMsg) (A : Option Addr) : Option Addr := if m.kind == 11 then none else A
def bareC (m : PMsg) (c : Nat) : Nat := if m.kind == 11 then 0 else c
def bareP (m : PMsg) (A : Option Addr) : Option Addr := if m.kind == 1 || m.kind == 4 then none else A
def bareQ (m : PMsg) (c : Nat) : Nat := if m.kind == 1 || m.kind == 4 then 0 else c
def BareRet (m : PMsg) (A : Option Addr) (c : Nat) (B : Option Addr) (d : Nat) (w : World) (e : Ending) (w' : World) : Prop := e = .returned (.agg (msgA (bareM m) (bareA m A) (bareC m c) (bareP m B) (bareQ m d))) ∧ Below w.heap.size w w'
theorem bare_any (m : PMsg) (A : Option Addr) (c : Nat) (B : Option Addr) (d : Nat) (w : World) :
    Calls Tryz.prog 103 #[.agg (msgA m A c B d)] w (BareRet m A c B d w) := by
  obtain ⟨kind, from_, to_, g, node, try_, low, code, ticket, told, ops⟩ := m
  show Calls Tryz.prog 103 #[.agg #[.int .i64 kind, .int .i64 from_, .int .i64 to_, .int .i64 g, .int .i64 node, .int .i64 try_, .int .i64 low, .int .i64 code, .int .i64 ticket, .slice A told.length c, .slice B ops.length d]] w _
  go_enter Tryz.func103, Tryz.ntmps103
  go_wp2_with fail
  all_goals
    refine bodyPost_ret (v := .agg (msgA (bareM ⟨kind, from_, to_, g, node, try_, low, code, ticket, told, ops⟩) (bareA ⟨kind, from_, to_, g, node, try_, low, code, ticket, told, ops⟩ A) (bareC ⟨kind, from_, to_, g, node, try_, low, code, ticket, told, ops⟩ c) (bareP ⟨kind, from_, to_, g, node, try_, low, code, ticket, told, ops⟩ B) (bareQ ⟨kind, from_, to_, g, node, try_, low, code, ticket, told, ops⟩ d))) ?_ rfl ⟨rfl, below_alloc (below_alloc (Below.refl _ _) _) _⟩
    simp [results, Tryz.results103, go_sem, msgA, bareM, bareA, bareC, bareP, bareQ, *]
    try (refine ⟨fun h => ?_, fun h => ?_⟩ <;> (subst h; simp_all))
end Go.Proofs.YteeiacfddjhhkaaGreatDoor
