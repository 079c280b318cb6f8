/- errors.As at the concrete target 'var n *fault.number': it finds the number at the end of a chain of the program's own errors. After the guide's worked text ToyasAs, its numbers turned, the chain's rounds added. -/
import Derived.Test.YteeiacfddjhhkaaGreatDoorFault
import Derived.LaidEql
import Derived.Stop.Asserts
import Derived.RowKitTokens
import Derived.Deep.LoopGhost
namespace Go.Proofs.YteeiacfddjhhkaaGreatDoor
open Go.RowKit Go.Extern.Stop Go.Stop Go.Extern
set_option maxRecDepth 100000

/-- What the listed variable errors.errorType holds. -/
def GOk (w : World) : Prop := w.cell? ⟨0, 0, none⟩ = some (.iface 189 (.agg #[.pointer (some ⟨1, 79, none⟩)]))
theorem GOk.lt {w : World} (h : GOk w) : 0 < w.heap.size := World.block_lt_of_cell? w _ h
theorem GOk.below {w w' : World} (h : GOk w) (hb : Below w.heap.size w w') : GOk w' := cell_below hb h
theorem GOk.kept {S : Nat → Prop} {w w' : World} (h : GOk w) (hk : Kept S w w') (h0 : ¬ S 0) : GOk w' := (World.cell?_of_block (hk.block 0 h.lt h0)).trans h

theorem Tryz.valueOfPP (t : Addr) (w : World) : (ReflectliteValue.unpack (.iface 124 (.pointer (some t)))).run Tryz.prog w
    = .ok (.agg #[.pointer (some ⟨1, 124, none⟩), .pointer (some ⟨w.heap.size, 0, none⟩), .int .u64 150]) (w.alloc (.cells #[.pointer (some t)] 124)) := by kernel_rfl
theorem Tryz.typePP (a : Addr) (w : World) : (ReflectliteValue.methodAny (ReflectliteValue.valueError "reflectlite.Value.Type" 0) (fun t _ _ _ => ReflectliteType.toType t) #[.agg #[.pointer (some ⟨1, 124, none⟩), .pointer (some a), .int .u64 150]]).run Tryz.prog w
    = .ok (.iface 189 (.agg #[.pointer (some ⟨1, 124, none⟩)])) w := by kernel_rfl
theorem Tryz.methodKind (h : Value) (w : World) : (Go.method 361 189 (.agg #[h]) "Kind").run Tryz.prog w = .ok (176, h) w := by kernel_rfl
theorem Tryz.kindPP (w : World) : ((ReflectliteType.abiMethod fun t => (fun a : Nat => Value.int IntKind.u8 (a : Int)) <$> Rtype.kind t) #[.pointer (some ⟨1, 124, none⟩)]).run Tryz.prog w = .ok (.int .u8 22) w := by kernel_rfl
theorem Tryz.kindPN (w : World) : ((ReflectliteType.abiMethod fun t => (fun a : Nat => Value.int IntKind.u8 (a : Int)) <$> Rtype.kind t) #[.pointer (some ⟨1, 120, none⟩)]).run Tryz.prog w = .ok (.int .u8 22) w := by kernel_rfl
theorem rlm (z : Sem Value) (f : TypeId → Addr → Nat → Nat → Sem Value) (v : Value) :
    ReflectliteValue.method z f #[v] = (do match ← ReflectliteValue.parts v with | none => z | some (t, a, fl) => f t a fl (fl % 32)) := rfl
theorem Tryz.partsPP (a : Addr) (w : World) : (ReflectliteValue.parts (.agg #[.pointer (some ⟨1, 124, none⟩), .pointer (some a), .int .u64 150])).run Tryz.prog w = .ok (some (124, a, 150)) w := by kernel_rfl
theorem Tryz.isNilPP (a p : Addr) (W : World) (ha : W.cell? a = some (.pointer (some p))) :
    (ReflectliteValue.method (ReflectliteValue.valueError "reflectlite.Value.IsNil" 0) ReflectliteValue.isNil #[.agg #[.pointer (some ⟨1, 124, none⟩), .pointer (some a), .int .u64 150]]).run Tryz.prog W = .ok (.bool false) W := by
  rw [rlm]
  simp only [Sem.run_bind, Tryz.partsPP, Result.andThen]
  simp [ReflectliteValue.isNil, loadVar, isAgg, underlying, Tryz.underlying124, ha, Result.andThen]
theorem Tryz.methodElem (h : Value) (w : World) : (Go.method 361 189 (.agg #[h]) "Elem").run Tryz.prog w = .ok (189, .agg #[h]) w := by kernel_rfl
theorem Tryz.methodImplements (h : Value) (w : World) : (Go.method 361 189 (.agg #[h]) "Implements").run Tryz.prog w = .ok (190, .agg #[h]) w := by kernel_rfl
theorem Tryz.methodAssignableTo (h : Value) (w : World) : (Go.method 361 189 (.agg #[h]) "AssignableTo").run Tryz.prog w = .ok (187, .agg #[h]) w := by kernel_rfl
theorem Tryz.elemPP (w : World) : (ReflectliteType.method ReflectliteType.elem #[.agg #[.pointer (some ⟨1, 124, none⟩)]]).run Tryz.prog w = .ok (.iface 189 (.agg #[.pointer (some ⟨1, 120, none⟩)])) w := by kernel_rfl
theorem Tryz.implementsPN (w : World) : (ReflectliteType.relation "Implements" ReflectliteType.implements_ #[.agg #[.pointer (some ⟨1, 120, none⟩)], .iface 189 (.agg #[.pointer (some ⟨1, 79, none⟩)])]).run Tryz.prog w = .ok (.bool true) w := by kernel_rfl
theorem Tryz.valueOfPN (e : Addr) (w : World) : (ReflectliteValue.unpack (.iface 120 (.pointer (some e)))).run Tryz.prog w
    = .ok (.agg #[.pointer (some ⟨1, 120, none⟩), .pointer (some ⟨w.heap.size, 0, none⟩), .int .u64 150]) (w.alloc (.cells #[.pointer (some e)] 120)) := by kernel_rfl
theorem Tryz.elemOfPP (w : World) : (Rtype.elem? 124).run Tryz.prog w = .ok (some 120) w := by kernel_rfl
theorem Tryz.mkPN (p : Addr) (w : World) : (ReflectliteValue.mk 120 p ReflectliteValue.flagAddr).run Tryz.prog w = .ok (.agg #[.pointer (some ⟨1, 120, none⟩), .pointer (some p), .int .u64 406]) w := by kernel_rfl
theorem Tryz.elemVPP (a p : Addr) (W : World) (ha : W.cell? a = some (.pointer (some p))) :
    (ReflectliteValue.method (ReflectliteValue.valueError "reflectlite.Value.Elem" 0) ReflectliteValue.elem #[.agg #[.pointer (some ⟨1, 124, none⟩), .pointer (some a), .int .u64 150]]).run Tryz.prog W
      = .ok (.agg #[.pointer (some ⟨1, 120, none⟩), .pointer (some p), .int .u64 406]) W := by
  rw [rlm]
  simp only [Sem.run_bind, Tryz.partsPP, Result.andThen]
  simp [ReflectliteValue.elem, loadVar, isAgg, underlying, Tryz.underlying124, ha, Result.andThen, Tryz.elemOfPP, Tryz.mkPN]
theorem rls (v x : Value) : ReflectliteValue.set #[v, x] = (do
    let (some (dst, a, fl), some (src, b, _)) := (← ReflectliteValue.parts v, ← ReflectliteValue.parts x)
      | unsupported (.noEntry "extern/(internal/reflectlite.Value).Set.zeroValue")
    if fl / ReflectliteValue.flagAddr % 2 == 0 then unsupported (.noEntry "extern/(internal/reflectlite.Value).Set.unaddressable")
    let val ← loadVar src b
    if ← Rtype.directlyAssignable dst src then storeVar dst a val
    else if ← Rtype.implements dst src then
      if (← Rtype.kind src) == 20 then
        match val with
        | .nilIface => unsupported (.noEntry "extern/reflectlite: a nil value of one interface type handed on as a value of another")
        | _ => storeVar dst a val
      else storeVar dst a (.iface src val)
    else panicString ("reflectlite.Set: value of type " ++ (← Rtype.spelt src) ++ " is not assignable to type " ++ (← Rtype.spelt dst))
    pure (.tuple #[])) := rfl
theorem Tryz.partsPNa (a : Addr) (w : World) : (ReflectliteValue.parts (.agg #[.pointer (some ⟨1, 120, none⟩), .pointer (some a), .int .u64 406])).run Tryz.prog w = .ok (some (120, a, 406)) w := by kernel_rfl
theorem Tryz.partsPN (a : Addr) (w : World) : (ReflectliteValue.parts (.agg #[.pointer (some ⟨1, 120, none⟩), .pointer (some a), .int .u64 150])).run Tryz.prog w = .ok (some (120, a, 150)) w := by kernel_rfl
theorem Tryz.directPN (w : World) : (Rtype.directlyAssignable 120 120).run Tryz.prog w = .ok true w := by kernel_rfl
theorem Tryz.sizePN (w : World) : (sizeOf 120).run Tryz.prog w = .ok 1 w := by kernel_rfl
theorem Tryz.setPN (ta b e : Addr) (old : Value) (W : World) (hb : W.cell? b = some (.pointer (some e))) (ht : W.cell? ta = some old) (hf : W.frozen? ta = false) :
    (ReflectliteValue.set #[.agg #[.pointer (some ⟨1, 120, none⟩), .pointer (some ta), .int .u64 406], .agg #[.pointer (some ⟨1, 120, none⟩), .pointer (some b), .int .u64 150]]).run Tryz.prog W
      = .ok (.tuple #[]) (W.setCell ta (.pointer (some e))) := by
  rw [rls]
  simp only [Sem.run_bind, Tryz.partsPNa, Tryz.partsPN, Result.andThen]
  simp [ReflectliteValue.flagAddr, loadVar, isAgg, underlying, Tryz.underlying120, hb, Result.andThen, Tryz.directPN, storeVar, Value.cells, storeCells, Addr.add]
  rw [run_store Tryz.prog W ta _ _ (by rfl)]
  simp [ht, hf]
theorem Tryz.typeOfPN (v : Value) (w : World) : (ReflectliteType.typeOf #[.iface 120 v]).run Tryz.prog w = .ok (.iface 189 (.agg #[.pointer (some ⟨1, 120, none⟩)])) w := by kernel_rfl
theorem Tryz.assignPN (w : World) : (ReflectliteType.relation "AssignableTo" ReflectliteType.assignableTo #[.agg #[.pointer (some ⟨1, 120, none⟩)], .iface 189 (.agg #[.pointer (some ⟨1, 120, none⟩)])]).run Tryz.prog w = .ok (.bool true) w := by kernel_rfl
theorem Tryz.typeOfAT (v : Value) (w : World) : (ReflectliteType.typeOf #[.iface 115 v]).run Tryz.prog w = .ok (.iface 189 (.agg #[.pointer (some ⟨1, 115, none⟩)])) w := by kernel_rfl
theorem Tryz.assignAT (w : World) : (ReflectliteType.relation "AssignableTo" ReflectliteType.assignableTo #[.agg #[.pointer (some ⟨1, 115, none⟩)], .iface 189 (.agg #[.pointer (some ⟨1, 120, none⟩)])]).run Tryz.prog w = .ok (.bool false) w := by kernel_rfl
theorem Tryz.typeOfBO (v : Value) (w : World) : (ReflectliteType.typeOf #[.iface 139 v]).run Tryz.prog w = .ok (.iface 189 (.agg #[.pointer (some ⟨1, 139, none⟩)])) w := by kernel_rfl
theorem Tryz.assignBO (w : World) : (ReflectliteType.relation "AssignableTo" ReflectliteType.assignableTo #[.agg #[.pointer (some ⟨1, 139, none⟩)], .iface 189 (.agg #[.pointer (some ⟨1, 120, none⟩)])]).run Tryz.prog w = .ok (.bool false) w := by kernel_rfl
theorem Tryz.typeOfIN (v : Value) (w : World) : (ReflectliteType.typeOf #[.iface 202 v]).run Tryz.prog w = .ok (.iface 189 (.agg #[.pointer (some ⟨1, 202, none⟩)])) w := by kernel_rfl
theorem Tryz.assignIN (w : World) : (ReflectliteType.relation "AssignableTo" ReflectliteType.assignableTo #[.agg #[.pointer (some ⟨1, 202, none⟩)], .iface 189 (.agg #[.pointer (some ⟨1, 120, none⟩)])]).run Tryz.prog w = .ok (.bool false) w := by kernel_rfl
theorem sizeW (w : World) : (sizeOf 117).run Tryz.prog w = .ok 1 w := by kernel_rfl
theorem recv (b : Nat) (x : Value) (w : World) (h : w.cell? ⟨b, 0, none⟩ = some x) : (receiverAt 117 (.var ⟨b, 0, none⟩) false none).run Tryz.prog w = .ok (.agg #[x]) w := by
  simp [receiverAt, Place.get, underlying, Tryz.underlying117, loadVar, isAgg, sizeW, loadCells, loadCellsFrom, h, Addr.add, Result.andThen]
theorem meth_gen {P : Program} {fuel t f : Nat} {v r : Value} {w : World} {name : String} {path : Array FieldStep} {xt : TypeId} {x : Place} (hf : (P.info? t).map (fun i => (i.methods.find? (·.name == name)).map (fun m => (m.path, m.func))) = some (some (path, some (f, false))))
    (hw : (follow path.toList t (.val v)).run P w = .ok (xt, x) w) (hp : ¬ path = #[]) (hr : (receiverAt xt x false none).run P w = .ok r w) : (Go.method (fuel + 1) t v name).run P w = .ok (f, r) w := by
  obtain ⟨i, hi, h2⟩ := Option.map_eq_some_iff.1 hf
  obtain ⟨m, hm, h3⟩ := Option.map_eq_some_iff.1 h2
  simp only [Prod.mk.injEq] at h3
  obtain ⟨h4, h5⟩ := h3
  simp [Go.method, typeInfo, hi, hm, h4, h5, hw, hp, hr, Result.andThen]
theorem Tryz.noAsAT (v : Value) (xT : TypeId) (w : World) : (Instr.typeAssert (.iface 115 v) xT 194 true).run Tryz.prog w = .ok (.tuple #[.nilIface, .bool false]) w := run_typeAssert_lacksB Tryz.underlying194 (by kernel_rfl) (by kernel_rfl) v xT w
theorem Tryz.hasUAT (v : Value) (xT : TypeId) (w : World) : (Instr.typeAssert (.iface 115 v) xT 197 true).run Tryz.prog w = .ok (.tuple #[.iface 115 v, .bool true]) w := run_typeAssert_hasB Tryz.underlying197 (by kernel_rfl) v xT w
theorem Tryz.nilUAT (a : Addr) (w : World) : (nilAhead 361 115 (.pointer (some a)) "Unwrap").run Tryz.prog w = .ok (some false) w := by kernel_rfl
theorem Tryz.followAT (b : Nat) (w : World) : (follow [⟨119, 0, true⟩] 115 (.val (.pointer (some ⟨b, 0, none⟩)))).run Tryz.prog w = .ok (117, .var ⟨b, 0, none⟩) w := by kernel_rfl
theorem Tryz.findAT : (Tryz.prog.info? 115).map (fun i => (i.methods.find? (·.name == "Unwrap")).map (fun m => (m.path, m.func))) = some (some (#[⟨119, 0, true⟩], some (180, false))) := by kernel_rfl
theorem Tryz.methUAT (b : Nat) (x : Value) (w : World) (h : w.cell? ⟨b, 0, none⟩ = some x) : (Go.method 361 115 (.pointer (some ⟨b, 0, none⟩)) "Unwrap").run Tryz.prog w = .ok (180, .agg #[x]) w :=
  meth_gen (fuel := 360) Tryz.findAT (Tryz.followAT b w) (by simp) (recv b x w h)
theorem Tryz.noAsBO (v : Value) (xT : TypeId) (w : World) : (Instr.typeAssert (.iface 139 v) xT 194 true).run Tryz.prog w = .ok (.tuple #[.nilIface, .bool false]) w := run_typeAssert_lacksB Tryz.underlying194 (by kernel_rfl) (by kernel_rfl) v xT w
theorem Tryz.hasUBO (v : Value) (xT : TypeId) (w : World) : (Instr.typeAssert (.iface 139 v) xT 197 true).run Tryz.prog w = .ok (.tuple #[.iface 139 v, .bool true]) w := run_typeAssert_hasB Tryz.underlying197 (by kernel_rfl) v xT w
theorem Tryz.nilUBO (a : Addr) (w : World) : (nilAhead 361 139 (.pointer (some a)) "Unwrap").run Tryz.prog w = .ok (some false) w := by kernel_rfl
theorem Tryz.followBO (b : Nat) (w : World) : (follow [⟨141, 0, true⟩] 139 (.val (.pointer (some ⟨b, 0, none⟩)))).run Tryz.prog w = .ok (117, .var ⟨b, 0, none⟩) w := by kernel_rfl
theorem Tryz.findBO : (Tryz.prog.info? 139).map (fun i => (i.methods.find? (·.name == "Unwrap")).map (fun m => (m.path, m.func))) = some (some (#[⟨141, 0, true⟩], some (180, false))) := by kernel_rfl
theorem Tryz.methUBO (b : Nat) (x : Value) (w : World) (h : w.cell? ⟨b, 0, none⟩ = some x) : (Go.method 361 139 (.pointer (some ⟨b, 0, none⟩)) "Unwrap").run Tryz.prog w = .ok (180, .agg #[x]) w :=
  meth_gen (fuel := 360) Tryz.findBO (Tryz.followBO b w) (by simp) (recv b x w h)
theorem Tryz.noAsIN (v : Value) (xT : TypeId) (w : World) : (Instr.typeAssert (.iface 202 v) xT 194 true).run Tryz.prog w = .ok (.tuple #[.nilIface, .bool false]) w := run_typeAssert_lacksB Tryz.underlying194 (by kernel_rfl) (by kernel_rfl) v xT w
theorem Tryz.hasUIN (v : Value) (xT : TypeId) (w : World) : (Instr.typeAssert (.iface 202 v) xT 197 true).run Tryz.prog w = .ok (.tuple #[.iface 202 v, .bool true]) w := run_typeAssert_hasB Tryz.underlying197 (by kernel_rfl) v xT w
theorem Tryz.nilUIN (a : Addr) (w : World) : (nilAhead 361 202 (.pointer (some a)) "Unwrap").run Tryz.prog w = .ok (some false) w := by kernel_rfl
theorem Tryz.followIN (b : Nat) (w : World) : (follow [⟨204, 0, true⟩] 202 (.val (.pointer (some ⟨b, 0, none⟩)))).run Tryz.prog w = .ok (117, .var ⟨b, 0, none⟩) w := by kernel_rfl
theorem Tryz.findIN : (Tryz.prog.info? 202).map (fun i => (i.methods.find? (·.name == "Unwrap")).map (fun m => (m.path, m.func))) = some (some (#[⟨204, 0, true⟩], some (180, false))) := by kernel_rfl
theorem Tryz.methUIN (b : Nat) (x : Value) (w : World) (h : w.cell? ⟨b, 0, none⟩ = some x) : (Go.method 361 202 (.pointer (some ⟨b, 0, none⟩)) "Unwrap").run Tryz.prog w = .ok (180, .agg #[x]) w :=
  meth_gen (fuel := 360) Tryz.findIN (Tryz.followIN b w) (by simp) (recv b x w h)
end Go.Proofs.YteeiacfddjhhkaaGreatDoor
