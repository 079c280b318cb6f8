/- The words of this seat's proofs: bytes as cells, rows that are read, what a call leaves as it was, and small laws on them. Plain words: numbers as bytes, operations and messages as bytes (no Go, no memory). fault.New, At, Bound, In, First: errors that wrap one another, each with its number at the end of its chain. crc.Sum is the plain function crcSum of the bytes of its parts, for every slice of slices of bytes that can be read. octet.Nat returns the bytes natB of its number, for every uint64. octet.Num, Str, Seq return the bytes numB, strB, and their parts one behind the other. ops.Encode returns the bytes opsB of its operations, for every slice of operations that can be read, of which the kinds are from 0 on. ops.letters, Key, plain, check: what keys and operations there may be. ops.check, ops.Check: what is wrong with operations. -/
import Derived.Test.YteeiacfddjhhkaaGreatDoorProg
import Derived.WalkKit
import Derived.KernelRfl
import Derived.OneCell
import Derived.Lib.Hide
import Derived.Deep.QuietTactic
import Derived.BigQuiet
import Derived.Maps.AppendAt
import Derived.Laws.AppendOwnNone
import Derived.Lib.AppendStr
import Derived.Lib.ConvBytes
import Derived.Lib.Zigzag
import Derived.Deep.RegionHeld3
namespace Go.Proofs.YteeiacfddjhhkaaGreatDoor
open Go.RowKit
set_option maxRecDepth 100000

/-- Bytes as cells. -/
def u8s (bs : List UInt8) : List Value := bs.map fun b => .int .u8 (b.toNat : Int)
theorem u8s_length (bs : List UInt8) : (u8s bs).length = bs.length := by simp [u8s]
theorem u8s_append (a b : List UInt8) : u8s (a ++ b) = u8s a ++ u8s b := by simp [u8s]
theorem u8s_get {bs : List UInt8} {j : Nat} {b : UInt8} (h : bs[j]? = some b) : (u8s bs)[j]? = some (.int .u8 (b.toNat : Int)) := by simp [u8s, h]
theorem u8s_one (bs : List UInt8) : ∀ u ∈ u8s bs, u.oneCell' = true := by
  intro u hu
  simp [u8s] at hu
  obtain ⟨b, _, rfl⟩ := hu
  rfl
theorem u8s_inj {a b : List UInt8} (h : u8s a = u8s b) : a = b := by
  unfold u8s at h
  refine List.map_inj_right (fun x y hxy => ?_) |>.1 h
  simp at hxy
  exact UInt8.toNat_inj.1 (by omega)
/-- A byte out of a number. -/
def u8 (n : Int) : UInt8 := UInt8.ofNat n.toNat
theorem u8_toNat {n : Int} (h0 : 0 ≤ n) (h1 : n < 256) : ((u8 n).toNat : Int) = n := by
  unfold u8
  rw [UInt8.toNat_ofNat']
  omega
theorem byte_lt (b : UInt8) : (b.toNat : Int) < 256 := by have := b.toNat_lt; omega

theorem add_plain (g j : Nat) : (⟨g, 0, none⟩ : Addr).add j = ⟨g, j, none⟩ := by unfold Addr.add; split <;> simp_all
theorem add_block (a : Addr) (j : Nat) : (a.add j).block = a.block := by unfold Addr.add; split <;> rfl
theorem add_add (a : Addr) (i j : Nat) : (a.add i).add j = a.add (i + j) := by
  unfold Addr.add
  by_cases hi : i = 0
  · subst hi; simp
  · by_cases hj : j = 0
    · subst hj; simp [hi]
    · simp [hi, hj, Nat.add_assoc]

theorem add_off (a : Addr) (i j : Nat) (hj : 0 < j) : a.add (i + j) = ⟨(a.add i).block, (a.add i).off + j, none⟩ := by
  rw [← add_add]
  show (if j = 0 then _ else _) = _
  rw [if_neg (by omega)]
/-- A row of cells that is read at A. -/
def RowAt (w : World) (A : Option Addr) (cs : List Value) : Prop := ∀ j u, cs[j]? = some u → ∃ ad, A = some ad ∧ w.cell? (ad.add j) = some u
theorem RowAt.nil (w : World) (A : Option Addr) : RowAt w A [] := fun j u h => by simp at h
theorem RowAt.get {w : World} {A : Option Addr} {cs : List Value} (h : RowAt w A cs) {j : Nat} (hj : j < cs.length) : ∃ ad, A = some ad ∧ w.cell? (ad.add j) = some cs[j] := h j _ (List.getElem?_eq_getElem hj)
/-- It hangs on its own block alone. -/
theorem RowAt.move {w w' : World} {A : Option Addr} {cs : List Value} (h : RowAt w A cs) (hb : ∀ ad, A = some ad → w'.heap[ad.block]? = w.heap[ad.block]?) : RowAt w' A cs := by
  intro j u hu
  obtain ⟨ad, hA, hc⟩ := h j u hu
  exact ⟨ad, hA, (World.cell?_of_block (by rw [add_block]; exact hb ad hA)).trans hc⟩
theorem RowAt.below {w w' : World} {A : Option Addr} {cs : List Value} (h : RowAt w A cs) (hb : Below w.heap.size w w') : RowAt w' A cs := by
  intro j u hu
  obtain ⟨ad, hA, hc⟩ := h j u hu
  exact ⟨ad, hA, (hb.cell (World.block_lt_of_cell? w _ hc)).trans hc⟩
theorem RowAt.take {w : World} {A : Option Addr} {cs : List Value} (h : RowAt w A cs) (k : Nat) : RowAt w A (cs.take k) := by
  intro j u hu
  rw [List.getElem?_take] at hu
  split at hu
  · exact h j u hu
  · cases hu
theorem RowAt.drop {w : World} {ad : Addr} {cs : List Value} (h : RowAt w (some ad) cs) (k : Nat) : RowAt w (some (ad.add k)) (cs.drop k) := by
  intro j u hu
  rw [List.getElem?_drop] at hu
  obtain ⟨ad', hA, hc⟩ := h _ u hu
  cases hA
  exact ⟨_, rfl, by rw [add_add]; exact hc⟩
theorem RowAt.of_own {w : World} {base n size : Nat} {e : TypeId} {v : Value} {xs : List Value} {A : Option Addr} {m c : Nat} (h : w.ownsRow base e size v n xs) (hv : v = .slice A m c) : RowAt w A xs := by
  intro j u hu
  rcases h.2 with ⟨rfl, h0⟩ | ⟨g, cap, cur, rfl, hb, hgg, _, _, _, htake⟩
  · have : xs = [] := List.eq_nil_of_length_eq_zero (by rw [h.1, h0]; simp)
    rw [this] at hu
    simp at hu
  · cases hv
    exact ⟨_, rfl, h.cells (g := g) rfl j u hu⟩
/-- A row that a call has just laid. -/
theorem RowAt.made {w : World} {cs : Array Value} {T : TypeId} {xs : List Value} (h : cs.toList = xs) : RowAt (w.alloc (.cells cs T)) (some ⟨w.heap.size, 0, none⟩) xs := by
  intro j u hu
  refine ⟨_, rfl, ?_⟩
  rw [add_plain, World.cell?_alloc_new]
  rw [← h] at hu
  simpa using hu
/-- A row's block lies in the world. -/
theorem RowAt.lt {w : World} {ad : Addr} {cs : List Value} (h : RowAt w (some ad) cs) (hc : cs ≠ []) : ad.block < w.heap.size := by
  obtain ⟨u, hu⟩ := List.exists_mem_of_ne_nil _ hc
  obtain ⟨j, hj, _⟩ := List.getElem_of_mem hu
  obtain ⟨ad', hA, hcell⟩ := h.get hj
  cases hA
  have := World.block_lt_of_cell? w _ hcell
  rwa [add_block] at this

/-- Bytes that are read: a slice value. -/
def RB (w : World) (v : Value) (bs : List UInt8) : Prop := ∃ A c, v = .slice A bs.length c ∧ (A = none → c = 0) ∧ bs.length ≤ c ∧ c ≤ maxLen ∧ RowAt w A (u8s bs)
/-- Bytes that are owned, from base on. -/
abbrev OB (w : World) (base : Nat) (v : Value) (bs : List UInt8) : Prop := w.ownsRow base 5 1 v bs.length (u8s bs)
theorem RB.of_own {w : World} {base : Nat} {v : Value} {bs : List UInt8} (h : OB w base v bs) : RB w v bs := by
  rcases h.2 with ⟨rfl, h0⟩ | ⟨g, cap, cur, rfl, hb, hgg, h1, h2, _, htake⟩
  · have h3 : bs = [] := List.eq_nil_of_length_eq_zero h0
    subst h3
    exact ⟨none, 0, rfl, fun _ => rfl, by simp, by simp, RowAt.nil _ _⟩
  · exact ⟨_, cap, rfl, fun h => (by cases h), h1, h2, RowAt.of_own h rfl⟩
theorem RB.below {w w' : World} {v : Value} {bs : List UInt8} (h : RB w v bs) (hb : Below w.heap.size w w') : RB w' v bs := by
  obtain ⟨A, c, hv, hn, hc, hm, hr⟩ := h
  exact ⟨A, c, hv, hn, hc, hm, hr.below hb⟩
theorem RB.move {w w' : World} {v : Value} {bs : List UInt8} (h : RB w v bs) (hb : ∀ k, v.ownBlock = some k → w'.heap[k]? = w.heap[k]?) : RB w' v bs := by
  obtain ⟨A, c, rfl, hn, hc, hm, hr⟩ := h
  exact ⟨A, c, rfl, hn, hc, hm, hr.move fun ad ha => hb _ (by subst ha; rfl)⟩

theorem RB.at_ {w : World} {A : Option Addr} {n c : Nat} {bs : List UInt8} (h : RB w (.slice A n c) bs) {i : Nat} (hi : i < bs.length) : ∃ ad, A = some ad ∧ w.cell? (ad.add i) = some (.int .u8 (bs[i].toNat : Int)) := by
  obtain ⟨A', c', he, _, _, _, hr⟩ := h
  cases he
  exact hr i _ (u8s_get (List.getElem?_eq_getElem hi))
/-- Owned rows: what is new stays. -/
theorem own_below {w w1 : World} {base : Nat} {e : TypeId} {size n : Nat} {v : Value} {xs : List Value} (h : w.ownsRow base e size v n xs) (hb : Below w.heap.size w w1) : w1.ownsRow base e size v n xs :=
  h.kept (⟨hb.os, hb.tape, hb.output, hb.size, fun k hk _ => hb.block k hk⟩ : w.grownBy w1 none) (by cases v.ownBlock <;> simp)
theorem own_lower {w : World} {base base' : Nat} {e : TypeId} {size n : Nat} {v : Value} {xs : List Value} (h : w.ownsRow base e size v n xs) (hb : base' ≤ base) : w.ownsRow base' e size v n xs := by
  refine ⟨h.1, ?_⟩
  rcases h.2 with h2 | ⟨g, cap, cur, hv, hg, r⟩
  · exact .inl h2
  · exact .inr ⟨g, cap, cur, hv, by omega, r⟩
theorem own_move {w w1 : World} {base : Nat} {e : TypeId} {size n : Nat} {v : Value} {xs : List Value} (h : w.ownsRow base e size v n xs) (hm : ∀ k, v.ownBlock = some k → w1.heap[k]? = w.heap[k]?) : w1.ownsRow base e size v n xs := by
  obtain ⟨h1, h2⟩ := h
  refine ⟨h1, ?_⟩
  rcases h2 with h2 | ⟨g, cap, cur, rfl, hg, hh, r⟩
  · exact .inl h2
  · exact .inr ⟨g, cap, cur, rfl, hg, (hm g (by simp [Value.ownBlock])).trans hh, r⟩
theorem own_slice {w : World} {base n : Nat} {e : TypeId} {size : Nat} {v : Value} {xs : List Value} (h : w.ownsRow base e size v n xs) : ∃ A c, v = .slice A n c := by
  rcases h.2 with ⟨rfl, rfl⟩ | ⟨g, cap, cur, rfl, _⟩
  · exact ⟨none, 0, rfl⟩
  · exact ⟨_, cap, rfl⟩
theorem own_ge {w : World} {base n : Nat} {e : TypeId} {size : Nat} {v : Value} {xs : List Value} (h : w.ownsRow base e size v n xs) (k : Nat) (hk : v.ownBlock = some k) : base ≤ k := (h.lt k hk).1

theorem block_setCell {w : World} {g : Nat} {arr : Array Value} {e : TypeId} {fr : Nat × Nat} (h : w.heap[g]? = some (.cells arr e fr)) (i : Nat) (v : Value) : (w.setCell ⟨g, i, none⟩ v).heap[g]? = some (.cells (arr.setIfInBounds i v) e fr) := by
  simp only [World.setCell, Array.getElem?_modify, if_true, h]
  simp
theorem block_cell {w : World} {g : Nat} {arr : Array Value} {e : TypeId} {fr : Nat × Nat} (h : w.heap[g]? = some (.cells arr e fr)) (i : Nat) : w.cell? ⟨g, i, none⟩ = arr[i]? := by simp [World.cell?, h]
theorem block_free {w : World} {g : Nat} {arr : Array Value} {e : TypeId} (h : w.heap[g]? = some (.cells arr e (0, 0))) (i : Nat) : w.frozen? ⟨g, i, none⟩ = false := by simp [World.frozen?, h]

theorem below_alloc {w W : World} (h : Below w.heap.size w W) (o : Obj) : Below w.heap.size w (W.alloc o) := h.alloc h.size o
theorem below_then {B : Nat} {w w1 w2 : World} (h : Below B w w1) (hB : B ≤ w1.heap.size) (k : Below w1.heap.size w1 w2) : Below B w w2 :=
  h.trans ⟨k.os, k.tape, k.output, k.size, fun i hi => k.block i (Nat.lt_of_lt_of_le hi hB)⟩
theorem bnext {w w1 w2 : World} (h : Below w.heap.size w w1) (k : Below w1.heap.size w1 w2) : Below w.heap.size w w2 := below_then h h.size k
theorem bboxed {w w1 : World} {o : Obj} (h : Below (w.alloc o).heap.size (w.alloc o) w1) : Below w.heap.size w w1   := bnext ((Below.refl _ _).alloc (Nat.le_refl _) _) h
theorem below_drewN {B : Nat} {w W : World} (h : Below B w W) (n : Nat) : Below B w (W.drewN n) := ⟨h.os, h.tape, h.output, h.size, h.block⟩
theorem cell_below {w w1 : World} (h : Below w.heap.size w w1) {a : Addr} {v : Value} (hc : w.cell? a = some v) : w1.cell? a = some v := (h.cell (World.block_lt_of_cell? w a hc)).trans hc
theorem block_below {w w1 : World} (h : Below w.heap.size w w1) {g : Nat} {o : Obj} (hc : w.heap[g]? = some o) : w1.heap[g]? = some o := (h.block g (lt_of_block hc)).trans hc

/-- What a call may have changed: blocks of S, and new ones. -/
structure Kept (S : Nat → Prop) (w w' : World) : Prop where
  os : w'.os = w.os
  tape : w'.tape = w.tape
  output : w'.output = w.output
  size : w.heap.size ≤ w'.heap.size
  block : ∀ k, k < w.heap.size → ¬ S k → w'.heap[k]? = w.heap[k]?
theorem Kept.refl (S : Nat → Prop) (w : World) : Kept S w w := ⟨rfl, rfl, rfl, Nat.le_refl _, fun _ _ _ => rfl⟩
theorem Kept.of_below {w w' : World} (S : Nat → Prop) (h : Below w.heap.size w w') : Kept S w w' := ⟨h.os, h.tape, h.output, h.size, fun k hk _ => h.block k hk⟩
theorem Kept.trans {S S' : Nat → Prop} {a b c : World} (h : Kept S a b) (k : Kept S' b c) (hs : ∀ k, k < a.heap.size → S' k → S k) : Kept S a c :=
  ⟨k.os.trans h.os, k.tape.trans h.tape, k.output.trans h.output, Nat.le_trans h.size k.size, fun i hi hn => (k.block i (Nat.lt_of_lt_of_le hi h.size) (fun hS => hn (hs i hi hS))).trans (h.block i hi hn)⟩
theorem Kept.mono {S S' : Nat → Prop} {w w' : World} (h : Kept S w w') (hs : ∀ k, S k → S' k) : Kept S' w w' := ⟨h.os, h.tape, h.output, h.size, fun k hk hn => h.block k hk (fun hS => hn (hs k hS))⟩
theorem Kept.alloc {S : Nat → Prop} {w W : World} (h : Kept S w W) (o : Obj) : Kept S w (W.alloc o) := h.trans (Kept.of_below S ((Below.refl _ _).alloc (Nat.le_refl _) o)) (fun _ _ h => h)
theorem Kept.drew {S : Nat → Prop} {w W : World} (h : Kept S w W) : Kept S w W.drew := ⟨h.os, h.tape, h.output, h.size, h.block⟩
theorem Kept.drewN {S : Nat → Prop} {w W : World} (h : Kept S w W) (n : Nat) : Kept S w (W.drewN n) := ⟨h.os, h.tape, h.output, h.size, h.block⟩
theorem Kept.setCell {S : Nat → Prop} {w W : World} (h : Kept S w W) {p : Addr} (hp : S p.block ∨ w.heap.size ≤ p.block) (u : Value) : Kept S w (W.setCell p u) :=
  ⟨h.os, h.tape, h.output, by rw [World.size_setCell]; exact h.size, fun k hk hn => by
    rw [Below.heap_setCell _ _ _ _ (by rintro rfl; rcases hp with h1 | h1; exact hn h1; omega)]
    exact h.block k hk hn⟩
theorem Kept.below {S : Nat → Prop} {w W W' : World} (h : Kept S w W) (hb : Below W.heap.size W W') : Kept S w W' := h.trans (Kept.of_below S hb) (fun _ _ h => h)
theorem Kept.to_below {S : Nat → Prop} {w W : World} (h : Kept S w W) {B : Nat} (hB : B ≤ w.heap.size) (hs : ∀ k, S k → B ≤ k) : Below B w W :=
  ⟨h.os, h.tape, h.output, h.size, fun k hk => h.block k (by omega) (fun hS => by have := hs k hS; omega)⟩

/-- A result that is one int, one bool. -/
theorem ret_int {k : IntKind} {a b : Int} (h : a = b) : Ending.returned (.int k a) = .returned (.int k b) := by rw [h]
theorem ret_bool {a b : Bool} (h : a = b) : Ending.returned (.bool a) = .returned (.bool b) := by rw [h]

theorem Tryz.infoU8 : (Tryz.prog.info? 5).map (fun i => (i.zero, i.size, i.bytes)) = some (some (.int .u8 0), 1, 1) := by kernel_rfl
theorem Tryz.infoI64 : (Tryz.prog.info? 2).map (fun i => (i.zero, i.size, i.bytes)) = some (some (.int .i64 0), 1, 8) := by kernel_rfl
theorem info_parts {P : Program} {t : TypeId} {z : Value} {s b : Nat} (h : (P.info? t).map (fun i => (i.zero, i.size, i.bytes)) = some (some z, s, b)) : ∃ i, P.info? t = some i ∧ i.zero = some z ∧ i.size = s ∧ i.bytes = b := by
  obtain ⟨i, hi, he⟩ := Option.map_eq_some_iff.1 h
  simp only [Prod.mk.injEq] at he
  exact ⟨i, hi, he.1, he.2.1, he.2.2⟩

/-- append(v, src...), v owned, src read; nil sources too. -/
theorem wp_append_row {P : Program} {w : World} {o : Oper} {a : Act} {K : Act → World → Prop} {Q : Exit → Act → World → Prop} (s x : Operand) (t : TypeId)
    (ho : o.op = .call { callee := .builtin .append, args := #[s, x], argTypes := #[t, t] })
    (base : Nat) (e : TypeId) (z : Value) (size bytes : Nat) (ht : P.underlying t = some (.slice e)) (hinfo : (P.info? e).map (fun i => (i.zero, i.size, i.bytes)) = some (some z, size, bytes)) (hzs : z.cells.size = size) (hsz : 0 < size) (hb0 : 0 < bytes)
    (v : Value) (n : Nat) (xs : List Value) (hs : a.eval s = v) (hown : w.ownsRow base e size v n xs)
    (A : Option Addr) (m c : Nat) (ns : List Value) (hx : a.eval x = .slice A m c) (hnil : A = none → c = 0) (hmc : m ≤ c) (hl : ns.length = m * size) (hrow : RowAt w A ns) (h1 : ∀ u ∈ ns, u.oneCell' = true)
    (hbytes : (n + m) * bytes ≤ 140737488355328) (hbase : base ≤ w.heap.size)
    (h : ∀ v' w', w'.ownsRow base e size v' (n + m) (xs ++ ns) → w.grownBy w' v.ownBlock → (v'.ownBlock = v.ownBlock ∨ v'.ownBlock = some w.heap.size) → K (a.put o.dst v') w') :
    o.wp P a w K Q := by
  obtain ⟨i, hi, hz, hsize, hby⟩ := info_parts hinfo
  have h63 : n + m ≤ 140737488355328 := Nat.le_trans (Nat.le_mul_of_pos_right _ hb0) hbytes
  cases A with
  | none =>
    have hc0 := hnil rfl
    subst hc0
    have hm0 : m = 0 := by omega
    subst hm0
    have hns : ns = [] := List.eq_nil_of_length_eq_zero (by simpa using hl)
    subst hns
    have hrun := run_append_owned_none (P := P) (w := w) base t o.type e i size ht hi v n xs hown
    unfold Oper.wp
    simp [execOp, ho, resolve, invoke, builtin, hs, hx, hrun, Result.andThen]
    exact h v w (by simpa using hown) ⟨rfl, rfl, rfl, Nat.le_refl _, fun _ _ _ => rfl⟩ (.inl rfl)
  | some ad =>
    have hnews : ∀ j u, ns[j]? = some u → w.cell? (ad.add j) = some u := fun j u hu => by
      obtain ⟨ad', hA, hc⟩ := hrow j u hu
      cases hA
      exact hc
    obtain ⟨v', w', hr, h2, h3, h4, h5⟩ := run_append_own_at (P := P) w base t o.type e i z size bytes ht hi hz hsize hby hzs hsz v n xs hown ad m c ns hl hnews h1 (by simp only [maxLen]; omega) hbytes hbase
    unfold Oper.wp execOp
    simp only [ho, resolve, invoke, builtin, Sem.run_bind, Sem.run_pure, Result.andThen_ok, List.map_toArray, List.map_cons, List.map_nil, hs, hx, hr]
    exact h v' w' h2 h3 h5
/-- append(v, src...) of bytes. -/
theorem wp_append_B {w : World} {o : Oper} {a : Act} {K : Act → World → Prop} {Q : Exit → Act → World → Prop} (s x : Operand)
    (ho : o.op = .call { callee := .builtin .append, args := #[s, x], argTypes := #[51, 51] })
    (base : Nat) (v src : Value) (bs ns rs : List UInt8) (hrs : bs ++ ns = rs) (hs : a.eval s = v) (hown : OB w base v bs) (hx : a.eval x = src) (hsrc : RB w src ns)
    (hbytes : bs.length + ns.length ≤ 140737488355328) (hbase : base ≤ w.heap.size)
    (h : ∀ v' w', OB w' base v' rs → w.grownBy w' v.ownBlock → (v'.ownBlock = v.ownBlock ∨ v'.ownBlock = some w.heap.size) → K (a.put o.dst v') w') :
    o.wp Tryz.prog a w K Q := by
  subst hrs
  obtain ⟨A, c, rfl, hn, hc, hm, hr⟩ := hsrc
  refine wp_append_row s x 51 ho base 5 (.int .u8 0) 1 1 Tryz.underlying51 Tryz.infoU8 rfl (by decide) (by decide) v bs.length (u8s bs) hs hown A ns.length c (u8s ns) hx hn hc (by rw [u8s_length, Nat.mul_one]) hr (u8s_one _) (by omega) hbase ?_
  intro v' w' h1 h2 h3
  refine h v' w' ?_ h2 h3
  unfold OB
  rw [List.length_append, u8s_append]
  exact h1
/-- []byte(s): new bytes that are read. -/
theorem wp_conv_SB {w : World} {o : Oper} {a : Act} {K : Act → World → Prop} {Q : Exit → Act → World → Prop} (x : Operand) (s : ByteArray) (hm : s.size ≤ 140737488355328)
    (ho : o.op = .convert 9 51 x) (hx : a.eval x = .string s)
    (h : ∀ A c w', RB w' (.slice A s.size c) s.data.toList → Below w.heap.size w w' → K (a.put o.dst (.slice A s.size c)) w') :
    o.wp Tryz.prog a w K Q := by
  have hr := Lib.run_convert_string_bytes (P := Tryz.prog) w 9 51 5 s Tryz.underlying9 Tryz.underlying51 Tryz.underlying5
  have hl : s.data.toList.length = s.size := by simp
  unfold Oper.wp execOp
  simp only [ho, hx, hr, Sem.run_bind, Sem.run_pure, Result.andThen_ok]
  refine h _ _ _ ⟨some ⟨w.heap.size, 0, none⟩, _, by rw [hl], fun h => (by cases h), ?_, ?_, ?_⟩ ⟨rfl, rfl, rfl, by rw [Lib.bytesWorld_size]; omega, fun k hk => Lib.bytesWorld_at_old w _ s k hk⟩
  · rw [hl]; exact grownCap_ge _ _ _ _
  · exact grownCap_le_maxLen _ _ _ _ (by simp only [maxLen]; omega)
  · intro j u hu
    refine ⟨_, rfl, ?_⟩
    have hj : j < s.size := by
      have := (List.getElem?_eq_some_iff.1 hu).1
      rw [u8s_length, hl] at this
      exact this
    rw [add_plain, Lib.bytesWorld_cell w _ s j hj]
    rw [u8s, List.getElem?_map, List.getElem?_eq_getElem (by rw [hl]; exact hj)] at hu
    simp only [Option.map_some, Option.some.injEq] at hu
    rw [← hu, List.getD_eq_getElem?_getD, List.getElem?_eq_getElem (by rw [hl]; exact hj)]
    rfl
/-- A step of a region that draws. -/
theorem step_of_wp {P : Program} {ops : Array Oper} {o : Oper} {a : Act} {w : World} {K : Act → World → Prop} {Q : Exit → Act → World → Prop} {E : Prop} (hgd : o.guard = none) (h : Oper.wp P o a w K Q) :
    if Region.wanted o (yielded ops a.tmps) = true then Oper.wp P o a w K Q else E := by
  have hw : Region.wanted o (yielded ops a.tmps) = true := by simp [Region.wanted, hgd]
  rw [if_pos hw]
  exact h
theorem list_of_wp {P : Program} {w : World} {ops : Array Oper} {rest : List Oper} {o : Oper} {a : Act} {Q : Exit → Act → World → Prop} (hgd : o.guard = none) (h : Oper.wp P o a w (fun a' w' => wpList P ops Q rest a' w') Q) : wpList P ops Q (o :: rest) a w := by
  refine wpList_plain hgd fun K hK => ?_
  exact Oper.wp_mono (fun a' w' h' => hK a' w' h') h
theorem wp_append_S {w : World} {o : Oper} {a : Act} {K : Act → World → Prop} {Q : Exit → Act → World → Prop} (sl x : Operand)
    (ho : o.op = .call { callee := .builtin .append, args := #[sl, x], argTypes := #[51, 9] })
    (base : Nat) (v : Value) (bs : List UInt8) (s : ByteArray) (hs : a.eval sl = v) (hown : OB w base v bs) (hx : a.eval x = .string s)
    (hbytes : bs.length + s.size ≤ 140737488355328) (hbase : base ≤ w.heap.size)
    (h : ∀ v' w', OB w' base v' (bs ++ s.data.toList) → w.grownBy w' v.ownBlock → K (a.put o.dst v') w') :
    o.wp Tryz.prog a w K Q := by
  obtain ⟨i, hi, hz, hsize, hby⟩ := info_parts Tryz.infoU8
  obtain ⟨v', w', hr, h2, h3, h4⟩ := Lib.run_append_own_string (P := Tryz.prog) w base 51 9 o.type 5 i Tryz.underlying51 Tryz.underlying9 hi hz hsize hby v bs.length (u8s bs) hown s (by simp only [maxLen]; omega) hbytes hbase
  unfold Oper.wp execOp
  simp only [ho, resolve, invoke, builtin, Sem.run_bind, Sem.run_pure, Result.andThen_ok, List.map_toArray, List.map_cons, List.map_nil, hs, hx, hr]
  refine h v' w' ?_ h3
  unfold OB
  rw [List.length_append, u8s_append, show s.data.toList.length = s.size from by simp]
  exact h2
theorem own_nil (w : World) (base : Nat) (e : TypeId) (size : Nat) : w.ownsRow base e size (.slice none 0 0) 0 [] := ⟨by simp, .inl ⟨rfl, rfl⟩⟩
theorem OB.nil (w : World) (base : Nat) : OB w base (.slice none 0 0) [] := own_nil w base _ 1
/-- A call hands back bytes of its own; what was there is as it was. -/
def RetB (w : World) (bs : List UInt8) (e : Ending) (w' : World) : Prop := ∃ A c, e = .returned (.slice A bs.length c) ∧ OB w' w.heap.size (.slice A bs.length c) bs ∧ Below w.heap.size w w'
theorem RetB.mk {w w' : World} {bs : List UInt8} {e : Ending} {v : Value} (he : e = .returned v) (ho : OB w' w.heap.size v bs) (hb : Below w.heap.size w w') : RetB w bs e w' := by
  obtain ⟨A, c, rfl⟩ := own_slice ho
  exact ⟨A, c, he, ho, hb⟩
theorem RB.made {w : World} {cs : Array Value} {T : TypeId} {bs : List UInt8} {n b : Nat} (hb : b = w.heap.size) (hc : cs.toList = u8s bs) (hn : n = bs.length) (hm : bs.length ≤ maxLen) : RB (w.alloc (.cells cs T)) (.slice (some ⟨b, 0, none⟩) n n) bs := by
  subst hn hb
  refine ⟨_, _, rfl, fun h => (by cases h), Nat.le_refl _, hm, fun j u hu => ⟨_, rfl, ?_⟩⟩
  rw [add_plain, World.cell?_alloc_new]
  rw [← hc] at hu
  simpa using hu
theorem OB.below {w w1 : World} {base : Nat} {v : Value} {bs : List UInt8} (h : OB w base v bs) (hb : Below w.heap.size w w1) : OB w1 base v bs := own_below h hb
theorem OB.lower {w : World} {base base' : Nat} {v : Value} {bs : List UInt8} (h : OB w base v bs) (hb : base' ≤ base) : OB w base' v bs := own_lower h hb
theorem msg_cells {w : World} {b : Nat} {T : TypeId} {fr : Nat × Nat} {a0 a1 a2 a3 a4 a5 a6 a7 a8 a9 a10 : Value} (h : w.heap[b]? = some (.cells #[a0, a1, a2, a3, a4, a5, a6, a7, a8, a9, a10] T fr)) :
    w.cell? ⟨b, 0, none⟩ = some a0 ∧ w.cell? ⟨b, 1, none⟩ = some a1 ∧ w.cell? ⟨b, 2, none⟩ = some a2 ∧ w.cell? ⟨b, 3, none⟩ = some a3 ∧ w.cell? ⟨b, 4, none⟩ = some a4 ∧ w.cell? ⟨b, 5, none⟩ = some a5 ∧ w.cell? ⟨b, 6, none⟩ = some a6 ∧ w.cell? ⟨b, 7, none⟩ = some a7 ∧ w.cell? ⟨b, 8, none⟩ = some a8 ∧ w.cell? ⟨b, 9, none⟩ = some a9 ∧ w.cell? ⟨b, 10, none⟩ = some a10 := by
  refine ⟨?_, ?_, ?_, ?_, ?_, ?_, ?_, ?_, ?_, ?_, ?_⟩ <;> (rw [block_cell h]; rfl)
theorem msg_free {w : World} {b : Nat} {T : TypeId} {a : Array Value} (h : w.heap[b]? = some (.cells a T (0, 0))) :
    w.frozen? ⟨b, 0, none⟩ = false ∧ w.frozen? ⟨b, 1, none⟩ = false ∧ w.frozen? ⟨b, 2, none⟩ = false ∧ w.frozen? ⟨b, 3, none⟩ = false ∧ w.frozen? ⟨b, 4, none⟩ = false ∧ w.frozen? ⟨b, 5, none⟩ = false ∧ w.frozen? ⟨b, 6, none⟩ = false ∧ w.frozen? ⟨b, 7, none⟩ = false ∧ w.frozen? ⟨b, 8, none⟩ = false ∧ w.frozen? ⟨b, 9, none⟩ = false ∧ w.frozen? ⟨b, 10, none⟩ = false := ⟨block_free h 0, block_free h 1, block_free h 2, block_free h 3, block_free h 4, block_free h 5, block_free h 6, block_free h 7, block_free h 8, block_free h 9, block_free h 10⟩
theorem msg_stored {w : World} {b : Nat} {T : TypeId} {a0 a1 a2 a3 a4 a5 a6 a7 a8 a9 a10 : Value} (h : w.heap[b]? = some (.cells #[a0, a1, a2, a3, a4, a5, a6, a7, a8, a9, a10] T (0, 0))) (n0 n1 n2 n3 n4 n5 n6 n7 n8 n9 n10 : Value) :
    ∃ W, (((((((((((w.setCell ⟨b, 0, none⟩ n0).setCell ⟨b, 1, none⟩ n1).setCell ⟨b, 2, none⟩ n2).setCell ⟨b, 3, none⟩ n3).setCell ⟨b, 4, none⟩ n4).setCell ⟨b, 5, none⟩ n5).setCell ⟨b, 6, none⟩ n6).setCell ⟨b, 7, none⟩ n7).setCell ⟨b, 8, none⟩ n8).setCell ⟨b, 9, none⟩ n9).setCell ⟨b, 10, none⟩ n10) = W ∧ W.heap[b]? = some (.cells #[n0, n1, n2, n3, n4, n5, n6, n7, n8, n9, n10] T (0, 0)) ∧ Kept (· = b) w W := by
  have h0 : (w.setCell ⟨b, 0, none⟩ n0).heap[b]? = some (.cells #[n0, a1, a2, a3, a4, a5, a6, a7, a8, a9, a10] T (0, 0)) := block_setCell h 0 _
  have h1 : ((w.setCell ⟨b, 0, none⟩ n0).setCell ⟨b, 1, none⟩ n1).heap[b]? = some (.cells #[n0, n1, a2, a3, a4, a5, a6, a7, a8, a9, a10] T (0, 0)) := block_setCell h0 1 _
  have h2 : (((w.setCell ⟨b, 0, none⟩ n0).setCell ⟨b, 1, none⟩ n1).setCell ⟨b, 2, none⟩ n2).heap[b]? = some (.cells #[n0, n1, n2, a3, a4, a5, a6, a7, a8, a9, a10] T (0, 0)) := block_setCell h1 2 _
  have h3 : ((((w.setCell ⟨b, 0, none⟩ n0).setCell ⟨b, 1, none⟩ n1).setCell ⟨b, 2, none⟩ n2).setCell ⟨b, 3, none⟩ n3).heap[b]? = some (.cells #[n0, n1, n2, n3, a4, a5, a6, a7, a8, a9, a10] T (0, 0)) := block_setCell h2 3 _
  have h4 : (((((w.setCell ⟨b, 0, none⟩ n0).setCell ⟨b, 1, none⟩ n1).setCell ⟨b, 2, none⟩ n2).setCell ⟨b, 3, none⟩ n3).setCell ⟨b, 4, none⟩ n4).heap[b]? = some (.cells #[n0, n1, n2, n3, n4, a5, a6, a7, a8, a9, a10] T (0, 0)) := block_setCell h3 4 _
  have h5 : ((((((w.setCell ⟨b, 0, none⟩ n0).setCell ⟨b, 1, none⟩ n1).setCell ⟨b, 2, none⟩ n2).setCell ⟨b, 3, none⟩ n3).setCell ⟨b, 4, none⟩ n4).setCell ⟨b, 5, none⟩ n5).heap[b]? = some (.cells #[n0, n1, n2, n3, n4, n5, a6, a7, a8, a9, a10] T (0, 0)) := block_setCell h4 5 _
  have h6 : (((((((w.setCell ⟨b, 0, none⟩ n0).setCell ⟨b, 1, none⟩ n1).setCell ⟨b, 2, none⟩ n2).setCell ⟨b, 3, none⟩ n3).setCell ⟨b, 4, none⟩ n4).setCell ⟨b, 5, none⟩ n5).setCell ⟨b, 6, none⟩ n6).heap[b]? = some (.cells #[n0, n1, n2, n3, n4, n5, n6, a7, a8, a9, a10] T (0, 0)) := block_setCell h5 6 _
  have h7 : ((((((((w.setCell ⟨b, 0, none⟩ n0).setCell ⟨b, 1, none⟩ n1).setCell ⟨b, 2, none⟩ n2).setCell ⟨b, 3, none⟩ n3).setCell ⟨b, 4, none⟩ n4).setCell ⟨b, 5, none⟩ n5).setCell ⟨b, 6, none⟩ n6).setCell ⟨b, 7, none⟩ n7).heap[b]? = some (.cells #[n0, n1, n2, n3, n4, n5, n6, n7, a8, a9, a10] T (0, 0)) := block_setCell h6 7 _
  have h8 : (((((((((w.setCell ⟨b, 0, none⟩ n0).setCell ⟨b, 1, none⟩ n1).setCell ⟨b, 2, none⟩ n2).setCell ⟨b, 3, none⟩ n3).setCell ⟨b, 4, none⟩ n4).setCell ⟨b, 5, none⟩ n5).setCell ⟨b, 6, none⟩ n6).setCell ⟨b, 7, none⟩ n7).setCell ⟨b, 8, none⟩ n8).heap[b]? = some (.cells #[n0, n1, n2, n3, n4, n5, n6, n7, n8, a9, a10] T (0, 0)) := block_setCell h7 8 _
  have h9 : ((((((((((w.setCell ⟨b, 0, none⟩ n0).setCell ⟨b, 1, none⟩ n1).setCell ⟨b, 2, none⟩ n2).setCell ⟨b, 3, none⟩ n3).setCell ⟨b, 4, none⟩ n4).setCell ⟨b, 5, none⟩ n5).setCell ⟨b, 6, none⟩ n6).setCell ⟨b, 7, none⟩ n7).setCell ⟨b, 8, none⟩ n8).setCell ⟨b, 9, none⟩ n9).heap[b]? = some (.cells #[n0, n1, n2, n3, n4, n5, n6, n7, n8, n9, a10] T (0, 0)) := block_setCell h8 9 _
  have h10 : (((((((((((w.setCell ⟨b, 0, none⟩ n0).setCell ⟨b, 1, none⟩ n1).setCell ⟨b, 2, none⟩ n2).setCell ⟨b, 3, none⟩ n3).setCell ⟨b, 4, none⟩ n4).setCell ⟨b, 5, none⟩ n5).setCell ⟨b, 6, none⟩ n6).setCell ⟨b, 7, none⟩ n7).setCell ⟨b, 8, none⟩ n8).setCell ⟨b, 9, none⟩ n9).setCell ⟨b, 10, none⟩ n10).heap[b]? = some (.cells #[n0, n1, n2, n3, n4, n5, n6, n7, n8, n9, n10] T (0, 0)) := block_setCell h9 10 _
  exact ⟨_, rfl, h10, (Kept.setCell (S := (· = b)) (p := ⟨b, 10, none⟩) (Kept.setCell (S := (· = b)) (p := ⟨b, 9, none⟩) (Kept.setCell (S := (· = b)) (p := ⟨b, 8, none⟩) (Kept.setCell (S := (· = b)) (p := ⟨b, 7, none⟩) (Kept.setCell (S := (· = b)) (p := ⟨b, 6, none⟩) (Kept.setCell (S := (· = b)) (p := ⟨b, 5, none⟩) (Kept.setCell (S := (· = b)) (p := ⟨b, 4, none⟩) (Kept.setCell (S := (· = b)) (p := ⟨b, 3, none⟩) (Kept.setCell (S := (· = b)) (p := ⟨b, 2, none⟩) (Kept.setCell (S := (· = b)) (p := ⟨b, 1, none⟩) (Kept.setCell (S := (· = b)) (p := ⟨b, 0, none⟩) (Kept.refl (· = b) w) (.inl rfl) n0) (.inl rfl) n1) (.inl rfl) n2) (.inl rfl) n3) (.inl rfl) n4) (.inl rfl) n5) (.inl rfl) n6) (.inl rfl) n7) (.inl rfl) n8) (.inl rfl) n9) (.inl rfl) n10)⟩
end Go.Proofs.YteeiacfddjhhkaaGreatDoor
namespace Go.Proofs.YteeiacfddjhhkaaGreatDoor

/-- The digits of a number to the base 256, the highest first, at most f. -/
def digs : Nat → Nat → List UInt8
  | 0, _ => []
  | f + 1, n => if n = 0 then [] else digs f (n / 256) ++ [UInt8.ofNat n]
/-- The lowest k digits. -/
def low (n : Nat) : Nat → List UInt8
  | 0 => []
  | k + 1 => UInt8.ofNat (n / 256 ^ k) :: low n k
def natB (n : Nat) : List UInt8 := UInt8.ofNat (digs 8 n).length :: digs 8 n
theorem low_length (n k : Nat) : (low n k).length = k := by
  induction k with
  | zero => rfl
  | succ k ih => simp [low, ih]
theorem low_snoc (n k : Nat) : low n (k + 1) = low (n / 256) k ++ [UInt8.ofNat n] := by
  induction k with
  | zero => simp [low]
  | succ k ih =>
    rw [low, ih, low]
    have : n / 256 ^ (k + 1) = n / 256 / 256 ^ k := by rw [Nat.div_div_eq_div_mul, Nat.pow_succ, Nat.mul_comm]
    rw [this]
    rfl
theorem digs_low (f : Nat) : ∀ (n k : Nat), k ≤ f → n / 256 ^ k = 0 → (k = 0 ∨ 0 < n / 256 ^ (k - 1)) → digs f n = low n k := by
  induction f with
  | zero =>
    intro n k hk _ _
    have : k = 0 := by omega
    subst this
    rfl
  | succ f ih =>
    intro n k hk h0 h1
    cases k with
    | zero =>
      have : n = 0 := by simpa using h0
      subst this
      rfl
    | succ k =>
      have hn : n ≠ 0 := by
        rintro rfl
        rcases h1 with h1 | h1
        · omega
        · simp at h1
      rw [digs, if_neg hn, low_snoc]
      congr 1
      have e1 : n / 256 / 256 ^ k = n / 256 ^ (k + 1) := by rw [Nat.div_div_eq_div_mul, Nat.pow_succ, Nat.mul_comm]
      refine ih _ _ (by omega) (by rw [e1]; exact h0) ?_
      cases k with
      | zero => exact .inl rfl
      | succ k =>
        right
        have e2 : n / 256 / 256 ^ k = n / 256 ^ (k + 1) := by rw [Nat.div_div_eq_div_mul, Nat.pow_succ, Nat.mul_comm]
        rcases h1 with h1 | h1
        · omega
        · simp only [Nat.add_sub_cancel] at h1 ⊢; rw [e2]; exact h1
theorem digs_length (f n : Nat) : (digs f n).length ≤ f := by
  induction f generalizing n with
  | zero => simp [digs]
  | succ f ih =>
    rw [digs]
    split
    · simp
    · have := ih (n / 256); simp; omega
theorem natB_low {n k : Nat} (hk : k ≤ 8) (h0 : n / 256 ^ k = 0) (h1 : k = 0 ∨ 0 < n / 256 ^ (k - 1)) : natB n = UInt8.ofNat k :: low n k := by
  unfold natB
  rw [digs_low 8 n k hk h0 h1, low_length]
theorem natB_length (n : Nat) : (natB n).length ≤ 9 := by
  have := digs_length 8 n
  simp [natB]; omega
/-- A number with a sign, folded. -/
def zig (n : Int) : Nat := if 0 ≤ n then (2 * n).toNat else (-2 * n - 1).toNat
def numB (n : Int) : List UInt8 := natB (zig n)
theorem numB_length (n : Int) : (numB n).length ≤ 9 := natB_length _
/-- A text. -/
def strB (s : List UInt8) : List UInt8 := natB s.length ++ s
/-- A letter of a key. -/
def letC (c : UInt8) : Bool := (97 ≤ c.toNat && c.toNat ≤ 122) || (48 ≤ c.toNat && c.toNat ≤ 57) || c.toNat == 46 || c.toNat == 95
def letS (s : List UInt8) : Bool := s.all letC && !s.isEmpty
def keyS (s : List UInt8) : Bool := decide (s.length ≤ 16) && letS s
/-- An operation. -/
structure POp where
  kind : Int
  key : ByteArray
  n : Int
  lo : Int
def opB (o : POp) : List UInt8 := natB o.kind.toNat ++ strB o.key.data.toList ++ numB o.n ++ numB o.lo
def opsB (l : List POp) : List UInt8 := natB l.length ++ (l.map opB).flatten
end Go.Proofs.YteeiacfddjhhkaaGreatDoor
namespace Go.Proofs.YteeiacfddjhhkaaGreatDoor
open Go.RowKit
set_option maxRecDepth 100000

/-- An error value whose chain ends in the number e. -/
inductive ErrIs (w : World) : Value → Int → Prop
  | num (b : Nat) (e : Int) (h : w.heap[b]? = some (.cells #[.int .i64 e] 122 (0, 0))) : ErrIs w (.iface 120 (.pointer (some ⟨b, 0, none⟩))) e
  | at_ (b : Nat) (x : Value) (p e : Int) (h : w.heap[b]? = some (.cells #[x, .int .i64 p] 119 (0, 0))) (hx : ErrIs w x e) : ErrIs w (.iface 115 (.pointer (some ⟨b, 0, none⟩))) e
  | bound (b : Nat) (x : Value) (l g e : Int) (h : w.heap[b]? = some (.cells #[x, .int .i64 l, .int .i64 g] 141 (0, 0))) (hx : ErrIs w x e) : ErrIs w (.iface 139 (.pointer (some ⟨b, 0, none⟩))) e
  | inn (b : Nat) (x : Value) (s : ByteArray) (e : Int) (h : w.heap[b]? = some (.cells #[x, .string s] 204 (0, 0))) (hx : ErrIs w x e) : ErrIs w (.iface 202 (.pointer (some ⟨b, 0, none⟩))) e
theorem ErrIs.later {w w' : World} {v : Value} {e : Int} (h : ErrIs w v e) (hb : Below w.heap.size w w') : ErrIs w' v e := by
  induction h with
  | num b e h => exact .num b e (block_below hb h)
  | at_ b x p e h _ ih => exact .at_ b x p e (block_below hb h) ih
  | bound b x l g e h _ ih => exact .bound b x l g e (block_below hb h) ih
  | inn b x s e h _ ih => exact .inn b x s e (block_below hb h) ih
theorem ErrIs.iface {w : World} {v : Value} {e : Int} (h : ErrIs w v e) : ∃ T b, v = .iface T (.pointer (some ⟨b, 0, none⟩)) := by
  cases h <;> exact ⟨_, _, rfl⟩
def RetE (w : World) (e : Int) (en : Ending) (w' : World) : Prop := ∃ T b, en = .returned (.iface T (.pointer (some ⟨b, 0, none⟩))) ∧ ErrIs w' (.iface T (.pointer (some ⟨b, 0, none⟩))) e ∧ Below w.heap.size w w'
theorem RetE.mk {w w' : World} {e : Int} {en : Ending} {v : Value} (hv : en = .returned v) (he : ErrIs w' v e) (hb : Below w.heap.size w w') : RetE w e en w' := by
  obtain ⟨T, b, rfl⟩ := he.iface
  exact ⟨T, b, hv, he, hb⟩

theorem new_err (e : Int) (he : e ≠ 0) (w : World) : Calls Tryz.prog 37 #[.int .i64 e] w (RetE w e) := by
  have hb : (e == 0) = false := by simpa using he
  go_enter Tryz.func37, Tryz.ntmps37
  go_wp2_with fail
  go_ret
  exact RetE.mk rfl (.num _ _ (heap_alloc_new w _)) (below_alloc (Below.refl _ _) _)
theorem new_ok (w : World) : Calls Tryz.prog 37 #[.int .i64 0] w fun en w' => en = .returned .nilIface ∧ w = w' := by
  go_enter Tryz.func37, Tryz.ntmps37
  go_wp2_with fail
  go_ret
  exact ⟨rfl, rfl⟩
theorem at_any (p : Int) (v : Value) (e : Int) (w : World) (h : ErrIs w v e) : Calls Tryz.prog 36 #[.int .i64 p, v] w (RetE w e) := by
  obtain ⟨T, b, rfl⟩ := h.iface
  have hE := Lib.hid h
  clear h
  go_enter Tryz.func36, Tryz.ntmps36
  go_wp2_with fail
  go_ret
  exact RetE.mk rfl (.at_ _ _ _ _ (heap_alloc_new w _) (hE.out.later (below_alloc (Below.refl _ _) _))) (below_alloc (Below.refl _ _) _)
theorem bound_any (l g : Int) (v : Value) (e : Int) (w : World) (h : ErrIs w v e) : Calls Tryz.prog 47 #[.int .i64 l, .int .i64 g, v] w (RetE w e) := by
  obtain ⟨T, b, rfl⟩ := h.iface
  have hE := Lib.hid h
  clear h
  go_enter Tryz.func47, Tryz.ntmps47
  go_wp2_with fail
  go_ret
  exact RetE.mk rfl (.bound _ _ _ _ _ (heap_alloc_new w _) (hE.out.later (below_alloc (Below.refl _ _) _))) (below_alloc (Below.refl _ _) _)
theorem in_any (s : ByteArray) (v : Value) (e : Int) (w : World) (h : ErrIs w v e) : Calls Tryz.prog 100 #[.string s, v] w (RetE w e) := by
  obtain ⟨T, b, rfl⟩ := h.iface
  have hE := Lib.hid h
  clear h
  go_enter Tryz.func100, Tryz.ntmps100
  go_wp2_with fail
  go_ret
  exact RetE.mk rfl (.inn _ _ _ _ (heap_alloc_new w _) (hE.out.later (below_alloc (Below.refl _ _) _))) (below_alloc (Below.refl _ _) _)
end Go.Proofs.YteeiacfddjhhkaaGreatDoor
namespace Go.Proofs.YteeiacfddjhhkaaGreatDoor
open Go.RowKit
set_option maxRecDepth 100000

def crcBit (s : Nat) : Nat := if s % 2 = 1 then (s / 2) ^^^ 2197175160 else s / 2
def crcBits (s : Nat) : Nat → Nat
  | 0 => s
  | k + 1 => crcBit (crcBits s k)
def crcByte (s : Nat) (c : UInt8) : Nat := crcBits (s ^^^ c.toNat) 8
def crcAll (s : Nat) (bs : List UInt8) : Nat := bs.foldl crcByte s
def crcSum (bs : List UInt8) : Nat := 4294967295 ^^^ crcAll 4294967295 bs
theorem crcBit_lt {s : Nat} (h : s < 4294967296) : crcBit s < 4294967296 := by
  unfold crcBit
  split
  · exact Nat.xor_lt_two_pow (n := 32) (by omega) (by omega)
  · omega
theorem crcBits_lt {s : Nat} (k : Nat) (h : s < 4294967296) : crcBits s k < 4294967296 := by
  induction k with
  | zero => exact h
  | succ k ih => exact crcBit_lt ih
theorem crcXor_lt {s : Nat} (c : UInt8) (h : s < 4294967296) : s ^^^ c.toNat < 4294967296 := Nat.xor_lt_two_pow (n := 32) h (by have := c.toNat_lt; omega)
theorem crcByte_lt {s : Nat} (c : UInt8) (h : s < 4294967296) : crcByte s c < 4294967296 := crcBits_lt 8 (crcXor_lt c h)
theorem crcAll_lt {s : Nat} (bs : List UInt8) (h : s < 4294967296) : crcAll s bs < 4294967296 := by
  induction bs generalizing s with
  | nil => exact h
  | cons c r ih => exact ih (crcByte_lt c h)
theorem crcAll_append (s : Nat) (a b : List UInt8) : crcAll s (a ++ b) = crcAll (crcAll s a) b := List.foldl_append ..
theorem crcAll_snoc (s : Nat) (bs : List UInt8) (j : Nat) (h : j < bs.length) : crcAll s (bs.take (j + 1)) = crcByte (crcAll s (bs.take j)) bs[j] := by
  rw [List.take_succ_eq_append_getElem h, crcAll_append]; rfl
theorem flat_snoc {α : Type} (parts : List (List α)) (k : Nat) (h : k < parts.length) : (parts.take (k + 1)).flatten = (parts.take k).flatten ++ parts[k] := by
  rw [List.take_succ_eq_append_getElem h, List.flatten_append]; simp

/-- Slices of bytes, one behind the other, that are read. -/
def RP (w : World) (v : Value) (parts : List (List UInt8)) : Prop :=
  ∃ A c vs, v = .slice A parts.length c ∧ parts.length ≤ maxLen ∧ vs.length = parts.length ∧ RowAt w A vs ∧ ∀ (i : Nat) (h : i < parts.length), ∃ v, vs[i]? = some v ∧ RB w v parts[i]
theorem RP.at_ {w : World} {A : Option Addr} {n c : Nat} {parts : List (List UInt8)} (h : RP w (.slice A n c) parts) {i : Nat} (hi : i < parts.length) :
    ∃ ad B d, A = some ad ∧ w.cell? (ad.add i) = some (.slice B parts[i].length d) ∧ RowAt w B (u8s parts[i]) ∧ parts[i].length ≤ maxLen ∧ RB w (.slice B parts[i].length d) parts[i] := by
  obtain ⟨A', c', vs, he, _, _, hr, hp⟩ := h
  cases he
  obtain ⟨v, hv, B, d, rfl, hn, hl, hm, hb⟩ := hp i hi
  obtain ⟨ad, hA, hc⟩ := hr i _ hv
  exact ⟨ad, B, d, hA, hc, hb, Nat.le_trans hl hm, B, d, rfl, hn, hl, hm, hb⟩

/-- Parts that a call has just built into a block of its own. -/
theorem RP.made {w : World} {vs : Array Value} {T : TypeId} {parts : List (List UInt8)} (hn : vs.size = parts.length) (h : ∀ (i : Nat) (hi : i < parts.length), ∃ v, vs[i]? = some v ∧ RB w v parts[i]) (hm : parts.length ≤ maxLen) :
    RP (w.alloc (.cells vs T)) (.slice (some ⟨w.heap.size, 0, none⟩) parts.length parts.length) parts := by
  refine ⟨_, _, vs.toList, rfl, hm, by simpa using hn, ?_, fun i hi => ?_⟩
  · intro j u hu
    refine ⟨_, rfl, ?_⟩
    rw [add_plain, World.cell?_alloc_new]
    simpa using hu
  · obtain ⟨v, hv, hr⟩ := h i hi
    exact ⟨v, by simpa using hv, hr.below ((Below.refl _ _).alloc (Nat.le_refl _) _)⟩
theorem RP.made1 {w : World} {v0 : Value} {T : TypeId} {p0 : List UInt8} (h0 : RB w v0 p0) : RP (w.alloc (.cells #[v0] T)) (.slice (some ⟨w.heap.size, 0, none⟩) 1 1) [p0] :=
  RP.made (vs := #[v0]) (parts := [p0]) rfl (fun i hi => by
    match i, hi with
    | 0, _ => exact ⟨v0, rfl, h0⟩) (by simp [maxLen])
theorem RP.made2 {w : World} {v0 v1 : Value} {T : TypeId} {p0 p1 : List UInt8} (h0 : RB w v0 p0) (h1 : RB w v1 p1) : RP (w.alloc (.cells #[v0, v1] T)) (.slice (some ⟨w.heap.size, 0, none⟩) 2 2) [p0, p1] :=
  RP.made (vs := #[v0, v1]) (parts := [p0, p1]) rfl (fun i hi => by
    match i, hi with
    | 0, _ => exact ⟨v0, rfl, h0⟩
    | 1, _ => exact ⟨v1, rfl, h1⟩) (by simp [maxLen])
theorem RP.made4 {w : World} {v0 v1 v2 v3 : Value} {T : TypeId} {p0 p1 p2 p3 : List UInt8} (h0 : RB w v0 p0) (h1 : RB w v1 p1) (h2 : RB w v2 p2) (h3 : RB w v3 p3) : RP (w.alloc (.cells #[v0, v1, v2, v3] T)) (.slice (some ⟨w.heap.size, 0, none⟩) 4 4) [p0, p1, p2, p3] :=
  RP.made (vs := #[v0, v1, v2, v3]) (parts := [p0, p1, p2, p3]) rfl (fun i hi => by
    match i, hi with
    | 0, _ => exact ⟨v0, rfl, h0⟩
    | 1, _ => exact ⟨v1, rfl, h1⟩
    | 2, _ => exact ⟨v2, rfl, h2⟩
    | 3, _ => exact ⟨v3, rfl, h3⟩) (by simp [maxLen])

theorem u32_step (t : Nat) (h : t < 4294967296) : crcBit t = if t % 2 = 1 then (t / 2) ^^^ 2197175160 else t / 2 := rfl

theorem sum_any (v : Value) (parts : List (List UInt8)) (w : World) (h : RP w v parts) :
    Calls Tryz.prog 85 #[v] w fun e w' => e = .returned (.int .u32 (crcSum parts.flatten : Nat)) ∧ w = w' := by
  obtain ⟨A, c, vs, rfl, hm, hl, hr, hp⟩ := id h
  clear hr hp hl vs
  have hR := Lib.hid h
  clear h
  unfold maxLen at hm
  go_enter Tryz.func85, Tryz.ntmps85
  go_wp2_with fail
  go_loop [3, 5, 7, 10, 14, 15, 16, 24] (fun s _ _ i _ _ _ _ => ∃ (k t : Nat), k ≤ parts.length ∧ i = .int .i64 k ∧ s = .int .u32 t ∧ Hid (t = crcAll 4294967295 (parts.take k).flatten)) (fun _ _ _ i _ _ _ _ => parts.length - (intOf i).toNat)
  case atStart => exact ⟨0, 4294967295, by omega, rfl, rfl, rfl⟩
  case round =>
    obtain ⟨k, t, hk, rfl, rfl, ht⟩ := hrel
    have hts : t < 4294967296 := by rw [ht.out]; exact crcAll_lt _ (by omega)
    by_cases hlt : k < parts.length
    · obtain ⟨ad, B, d, rfl, hcell, hb, hm2, hrb⟩ := hR.out.at_ hlt
      clear hrb
      generalize hbs : parts[k] = bs at *
      have hBS := Lib.hid hbs
      have hB := Lib.hid hb
      clear hb hbs
      unfold maxLen at hm2
      go_wp2_with fail
      go_loop [3, 7, 16, 24] (fun s _ i _ => ∃ (j u : Nat), j ≤ bs.length ∧ i = .int .i64 j ∧ s = .int .u32 u ∧ Hid (u = crcAll t (bs.take j))) (fun _ _ i _ => bs.length - (intOf i).toNat)
      case atStart => exact ⟨0, t, by omega, rfl, rfl, rfl⟩
      case round =>
        obtain ⟨j, u, hj, rfl, rfl, hu⟩ := hrel
        have hus : u < 4294967296 := by rw [hu.out]; exact crcAll_lt _ hts
        by_cases hjlt : j < bs.length
        · obtain ⟨ad2, rfl, hcell2⟩ := hB.out j _ (u8s_get (List.getElem?_eq_getElem hjlt))
          generalize hx : bs[j] = x at *
          have hX := Lib.hid hx
          clear hx
          have hxl := x.toNat_lt
          have hxor := u32_xor_nat u x.toNat (by omega) (by omega)
          have hxl2 := crcXor_lt x hus
          have hX2 : Hid (∃ y : UInt8, y = x) := ⟨x, rfl⟩
          generalize hy : u ^^^ x.toNat = y at *
          have hY := Lib.hid hy
          clear hy
          go_wp2_with fail
          go_loop [3, 24] (fun s i => ∃ (l z : Nat), l ≤ 8 ∧ i = .int .i64 l ∧ s = .int .u32 z ∧ Hid (z = crcBits y l)) (fun _ i => 8 - (intOf i).toNat)
          case atStart => exact ⟨0, y, by omega, rfl, rfl, rfl⟩
          case round =>
            obtain ⟨l, z, hl, rfl, rfl, hz⟩ := hrel
            have hzs : z < 4294967296 := by rw [hz.out]; exact crcBits_lt _ hxl2
            by_cases hll : l < 8
            · have hand : bits .and .u32 (z : Int) (1 : Int) = ((z &&& 1 : Nat) : Int) := u32_and_nat z 1 hzs (by omega)
              rw [nat_mask1] at hand
              have hx2 : bits .xor .u32 ((z / 2 : Nat) : Int) (2197175160 : Int) = (((z / 2) ^^^ 2197175160 : Nat) : Int) := u32_xor_nat (z / 2) 2197175160 (by omega) (by omega)
              have hx3 : bits .xor .u32 ((z : Int) / 2) (2197175160 : Int) = (((z / 2) ^^^ 2197175160 : Nat) : Int) := hx2
              clear hx2
              have hX3 := Lib.hid hx3
              clear hx3
              have hM : Hid ((z : Int) % 2 = ((z % 2 : Nat) : Int)) := Lib.hid (by omega)
              go_wp2_with fail
              · refine ⟨⟨l + 1, crcBit z, by omega, by go_num, ?_, ?_⟩, by simp [intOf]; omega⟩
                · have h1 : ((z : Int) % 2 == 1) = true := by assumption
                  rw [hX3.out, crcBit, if_pos (by simp at h1; omega)]
                · exact (show crcBit z = crcBits y (l + 1) by rw [hz.out]; rfl)
              · refine ⟨⟨l + 1, crcBit z, by omega, by go_num, ?_, ?_⟩, by simp [intOf]; omega⟩
                · have h1 : ((z : Int) % 2 == 1) = false := by assumption
                  rw [crcBit, if_neg (by simp at h1; omega)]
                  rfl
                · exact (show crcBit z = crcBits y (l + 1) by rw [hz.out]; rfl)
            · have h8 : l = 8 := by omega
              subst h8
              go_wp2_with fail
              go_round
              case rel => exact ⟨j + 1, z, by omega, by go_num, rfl, (show z = crcAll t (bs.take (j + 1)) by rw [hz.out, crcAll_snoc _ _ _ hjlt, hX.out, ← hu.out, crcByte, hY.out])⟩
              case measure => simp [intOf]; omega
        · go_wp2_with fail
          have hj2 : bs.take j = bs := List.take_of_length_le (by omega)
          go_round
          case rel => exact ⟨k + 1, u, by omega, by go_num, rfl, (show u = crcAll 4294967295 (parts.take (k + 1)).flatten by rw [flat_snoc _ _ hlt, crcAll_append, hBS.out, ← ht.out, hu.out, hj2])⟩
          case measure => simp [intOf]; omega
    · go_wp2_with fail
      have hk2 : parts.take k = parts := List.take_of_length_le (by omega)
      have ht2 := ht.out
      rw [hk2] at ht2
      have hn := u32_xor_nat 4294967295 t (by omega) hts
      go_ret
      exact ⟨ret_int (k := .u32) (show bits .xor .u32 (4294967295 : Nat) (t : Nat) = _ by rw [hn, ht2]; rfl), rfl⟩
end Go.Proofs.YteeiacfddjhhkaaGreatDoor
namespace Go.Proofs.YteeiacfddjhhkaaGreatDoor
open Go.RowKit
set_option maxRecDepth 100000

/-- The array behind k rounds. -/
def NatArr (w : World) (g n k : Nat) : Prop := ∃ arr : Array Value, w.heap[g]? = some (.cells arr 151 (0, 0)) ∧ arr.toList = List.replicate (9 - k) (.int .u8 0) ++ u8s (low n k)

theorem NatArr.cell {w : World} {g n k : Nat} (h : NatArr w g n k) {i : Nat} (hi : i < 9) (hk : k ≤ 8) : ∃ u, w.cell? ⟨g, i, none⟩ = some u ∧ w.frozen? ⟨g, i, none⟩ = false := by
  obtain ⟨arr, hb, hl⟩ := h
  have hs : arr.toList.length = 9 := by rw [hl]; simp [u8s_length, low_length]; omega
  have hs2 : i < arr.size := by simp at hs; omega
  exact ⟨arr[i], by rw [block_cell hb]; exact Array.getElem?_eq_getElem hs2, block_free hb i⟩
theorem set_rep (z v : Value) (k : Nat) (hk : k < 8) (L : List Value) : (List.replicate (9 - k) z ++ L).set (8 - k) v = List.replicate (9 - (k + 1)) z ++ v :: L := by
  have e2 : 9 - k = (8 - k) + 1 := by omega
  have e3 : 9 - (k + 1) = 8 - k := by omega
  rw [e2, e3, List.replicate_succ', List.append_assoc, List.set_append_right _ _ (by simp)]
  simp
theorem NatArr.step {w : World} {g n k x : Nat} (h : NatArr w g n k) (hk : k < 8) (hx : n / 256 ^ k = x) : NatArr (w.setCell ⟨g, 8 - k, none⟩ (.int .u8 ((x : Int) % 256))) g n (k + 1) := by
  obtain ⟨arr, hb, hl⟩ := h
  refine ⟨_, block_setCell hb _ _, ?_⟩
  rw [Array.toList_setIfInBounds, hl, set_rep _ _ k hk]
  have e : (Value.int .u8 ((x : Int) % 256)) = .int .u8 ((UInt8.ofNat x).toNat : Int) := congrArg (Value.int .u8) (by rw [UInt8.toNat_ofNat']; rfl)
  have e4 : low n (k + 1) = UInt8.ofNat x :: low n k := by rw [← hx]; rfl
  rw [e, e4]
  rfl

theorem set_rep_last (z v : Value) (k : Nat) (hk : k ≤ 8) (L : List Value) : (List.replicate (9 - k) z ++ L).set (8 - k) v = List.replicate (8 - k) z ++ v :: L := by
  have e2 : 9 - k = (8 - k) + 1 := by omega
  rw [e2, List.replicate_succ', List.append_assoc, List.set_append_right _ _ (by simp)]
  simp
theorem NatArr.last {w : World} {g n k : Nat} (h : NatArr w g n k) (hk : k ≤ 8) (hn : natB n = UInt8.ofNat k :: low n k) :
    ∃ arr : Array Value, (w.setCell ⟨g, 8 - k, none⟩ (.int .u8 k)).heap[g]? = some (.cells arr 151 (0, 0)) ∧ arr.toList = List.replicate (8 - k) (.int .u8 0) ++ u8s (natB n) := by
  obtain ⟨arr, hb, hl⟩ := h
  refine ⟨_, block_setCell hb _ _, ?_⟩
  rw [Array.toList_setIfInBounds, hl, set_rep_last _ _ k hk, hn]
  have e : (Value.int .u8 (k : Int)) = .int .u8 ((UInt8.ofNat k).toNat : Int) := congrArg (Value.int .u8) (by rw [UInt8.toNat_ofNat']; omega)
  rw [e]
  rfl

theorem nat_any (n : Nat) (hn : n < 18446744073709551616) (w : World) :
    Calls Tryz.prog 57 #[.int .u64 n] w (RetB w (natB n)) := by
  have hN := Lib.hid hn
  go_enter Tryz.func57, Tryz.ntmps57
  go_wp2_with fail
  go_loopw [4, 5] (fun c x wr => ∃ k : Nat, k ≤ 8 ∧ c = .int .i64 k ∧ x = .int .u64 (n / 256 ^ k : Nat) ∧ Hid (k = 0 ∨ 0 < n / 256 ^ (k - 1)) ∧ NatArr wr w.heap.size n k ∧ Below w.heap.size w wr) (fun _ x _ => (intOf x).toNat)
  case atStart => exact ⟨0, by omega, rfl, by simp, .inl rfl, ⟨_, heap_alloc_new w _, rfl⟩, (Below.refl _ _).alloc (Nat.le_refl _) _⟩
  case round =>
    obtain ⟨k, hk, rfl, rfl, hp, hA, hB⟩ := hrel
    have hA' := Lib.hid hA
    have hB' := Lib.hid hB
    clear hA hB
    generalize hx : n / 256 ^ k = x at *
    have hX := Lib.hid hx
    clear hx
    by_cases h0 : 0 < x
    · have hk8 : k < 8 := by
        rcases Nat.lt_or_ge k 8 with h | h
        · exact h
        · have : k = 8 := by omega
          subst this
          have h1 := hX.out
          have h2 := hN.out
          omega
      obtain ⟨u, hc, hf⟩ := NatArr.cell hA'.out (i := 8 - k) (by omega) hk
      go_wp2_with fail
      refine ⟨⟨k + 1, by omega, by go_num, ?_, .inr (by simpa [hX.out] using h0), ?_, hB'.out.setCell (p := ⟨w.heap.size, 8 - k, none⟩) (Nat.le_refl _) _⟩, ?_⟩
      · have : n / 256 ^ (k + 1) = x / 256 := by rw [← hX.out, Nat.div_div_eq_div_mul, Nat.pow_succ]
        rw [this]; rfl
      · exact NatArr.step hA'.out hk8 hX.out
      · simp [intOf]; omega
    · have hx0 : x = 0 := by omega
      subst hx0
      clear h0
      obtain ⟨u, hc, hf⟩ := NatArr.cell hA'.out (i := 8 - k) (by omega) hk
      have hsl : ∀ W, (Instr.sliceAt 151 (.pointer (some ⟨w.heap.size, 0, none⟩)) (some (.int .i64 (8 - k))) none none).run Tryz.prog W = .ok (.slice (some ⟨w.heap.size, 8 - k, none⟩) (k + 1) (k + 1)) W := by
        intro W
        rw [run_sliceAt_array_l W 151 ⟨w.heap.size, 0, none⟩ Tryz.underlying151 .i64 (8 - k) (by omega) (show _ ≤ ((9 : Nat) : Int) by omega)]
        have es : (sizeOf (Tryz.prog.elem 151)).run Tryz.prog W = .ok 1 W := by kernel_rfl
        have e9 : Tryz.prog.arrayLen 151 = 9 := by kernel_rfl
        have e1 : (8 - (k : Int)).toNat = 8 - k := by omega
        rw [es, e9]
        simp only [Result.andThen, slicedAt, e1]
        rw [if_neg (by omega), add_plain, Nat.mul_one, show 9 - (8 - k) = k + 1 from by omega]
      have hnat : Hid (natB n = UInt8.ofNat k :: low n k) := Lib.hid (natB_low hk hX.out hp.out)
      obtain ⟨i0, hi, hz0, hz1, hz2⟩ := info_parts Tryz.infoU8
      have hlast := Lib.hid (NatArr.last hA'.out hk hnat.out)
      have hsz : w.heap.size < wr.heap.size := by
        obtain ⟨arr, hb, _⟩ := hA'.out
        exact lt_of_block hb
      have hlen : (natB n).length = k + 1 := by rw [hnat.out]; simp [low_length]
      have hL := Lib.hid hlen
      clear hlen
      go_wp2_with (at_builtin; refine wpList_append_own _ rfl _ _ 51 rfl w.heap.size 5 i0 (.int .u8 0) 1 1 Tryz.underlying51 hi hz0 hz1 hz2 rfl (by decide) (.slice (some ⟨wr.heap.size, 0, none⟩) 0 0) 0 [] rfl ?c1 ⟨w.heap.size, 8 - k, none⟩ (k + 1) (k + 1) (u8s (natB n)) rfl ?c2 ?c3 (u8s_one _) ?c4 ?c5 ?c6 ?_)
      case c1 =>
        have := World.ownsRow_made (base := w.heap.size) (e := 5) (size := 1) (wr.setCell ⟨w.heap.size, 8 - k, none⟩ (.int .u8 k)) #[] 0 (by simp; omega) (by simp) (by simp)
        simpa using this
      case c2 => rw [u8s_length, hL.out, Nat.mul_one]
      case c3 =>
        intro j u hu
        obtain ⟨arr, hb, hl⟩ := hlast.out
        rw [World.cell?_alloc_lt _ _ _ (by rw [add_block]; simp; omega)]
        have : (⟨w.heap.size, 8 - k, none⟩ : Addr).add j = ⟨w.heap.size, 8 - k + j, none⟩ := by unfold Addr.add; split <;> simp_all
        rw [this, block_cell hb, ← Array.getElem?_toList, hl, List.getElem?_append_right (by simp)]
        simpa using hu
      case c4 => simp [maxLen]; omega
      case c5 => omega
      case c6 => simp; omega
      intro v' w1 hown hg _
      have hb1 : Below w.heap.size w w1 := ((hB'.out.setCell (p := ⟨w.heap.size, 8 - k, none⟩) (Nat.le_refl _) (.int .u8 k)).alloc (by simp; omega) (.cells #[] 5)).grown hg (by simp; omega) (by intro q hq; simp [Value.ownBlock] at hq; omega)
      have hB1 := Lib.hid hb1
      have hO := Lib.hid hown
      clear hown hg hb1
      go_wp2_with fail
      go_ret
      refine RetB.mk rfl (v := v') ?_ hB1.out
      unfold OB
      rw [hL.out]
      simpa using hO.out
theorem nat_int (n : Int) (h0 : 0 ≤ n) (h1 : n < 18446744073709551616) (w : World) :
    Calls Tryz.prog 57 #[.int .u64 n] w (RetB w (natB n.toNat)) := by
  obtain ⟨m, rfl⟩ := Int.eq_ofNat_of_zero_le h0
  rw [Int.toNat_natCast]
  exact nat_any m (by omega) w
end Go.Proofs.YteeiacfddjhhkaaGreatDoor
namespace Go.Proofs.YteeiacfddjhhkaaGreatDoor
open Go.RowKit
set_option maxRecDepth 100000

theorem zig_pos {n : Int} (h0 : 0 ≤ n) (h1 : n ≤ 9223372036854775807) : bits .xor .u64 (n * 2) (n / 9223372036854775808) = ((zig n : Nat) : Int) := by
  have e : n / 9223372036854775808 = ((0 : Nat) : Int) := by omega
  have e1 : n * 2 = (((2 * n).toNat : Nat) : Int) := by omega
  rw [e, e1, u64_xor_nat _ _ (by omega) (by omega), Nat.xor_zero, zig, if_pos h0]
theorem zig_neg {n : Int} (h0 : -9223372036854775808 ≤ n) (h1 : n < 0) : bits .xor .u64 (IntKind.u64.wrap (IntKind.u64.wrap n * 2)) (IntKind.u64.wrap (n / 9223372036854775808)) = ((zig n : Nat) : Int) := by
  have e1 : IntKind.u64.wrap (IntKind.u64.wrap n * 2) = (((2 * n + 18446744073709551616).toNat : Nat) : Int) := by
    rw [IntKind.wrap_u64, IntKind.wrap_u64]
    omega
  have e2 : IntKind.u64.wrap (n / 9223372036854775808) = ((2 ^ 64 - 1 : Nat) : Int) := by
    have : n / 9223372036854775808 = -1 := by omega
    rw [this]
    decide
  rw [e1, e2, u64_xor_nat _ _ (by omega) (by decide), Nat.xor_comm, Lib.xor_ones64 _ (by omega), zig, if_neg (by omega)]
  omega
theorem zig_lt {n : Int} (h0 : -9223372036854775808 ≤ n) (h1 : n ≤ 9223372036854775807) : zig n < 18446744073709551616 := by
  unfold zig
  split <;> omega
theorem num_any (n : Int) (h0 : -9223372036854775808 ≤ n) (h1 : n ≤ 9223372036854775807) (w : World) :
    Calls Tryz.prog 59 #[.int .i64 n] w (RetB w (numB n)) := by
  have hz := Lib.hid (zig_lt h0 h1)
  by_cases hn : 0 ≤ n
  · have he := Lib.hid (zig_pos hn h1)
    go_enter Tryz.func59, Tryz.ntmps59
    go_wp2_with fail
    rw [he.out]
    refine (nat_any _ hz.out _).mono ?_
    rintro e w' ⟨Av, cv, rfl, hO, hB⟩
    go_wp2_with fail
    go_ret
    exact ⟨Av, cv, rfl, hO, hB⟩
  · have he := Lib.hid (zig_neg h0 (by omega))
    go_enter Tryz.func59, Tryz.ntmps59
    go_wp2_with fail
    rw [he.out]
    refine (nat_any _ hz.out _).mono ?_
    rintro e w' ⟨Av, cv, rfl, hO, hB⟩
    go_wp2_with fail
    go_ret
    exact ⟨Av, cv, rfl, hO, hB⟩

/-- append(b, s...), s a string. -/
theorem str_any (s : ByteArray) (hs : s.size ≤ 140737488355000) (w : World) :
    Calls Tryz.prog 61 #[.string s] w (RetB w (strB s.data.toList)) := by
  go_enter Tryz.func61, Tryz.ntmps61
  go_wp2_with fail
  refine (nat_any _ (by omega) _).mono ?_
  rintro e w' ⟨Av, cv, rfl, hO, hB⟩
  have hO' := Lib.hid hO
  have hB' := Lib.hid hB
  clear hO hB
  go_wp2_with (at_builtin; refine list_of_wp rfl (wp_append_S _ _ rfl w.heap.size (.slice Av (natB s.size).length cv) (natB s.size) s rfl hO'.out rfl ?c1 ?c2 ?_))
  case c1 => have := natB_length s.size; omega
  case c2 => exact hB'.out.size
  intro v' w1 h1 h2
  have h1' := Lib.hid h1
  have h2' := Lib.hid (hB'.out.grown h2 hB'.out.size (own_ge hO'.out))
  clear h1 h2
  go_wp2_with fail
  go_ret
  exact RetB.mk rfl (v := v') h1'.out h2'.out

theorem seq_any (v : Value) (parts : List (List UInt8)) (bs : List UInt8) (w : World) (h : RP w v parts) (hbs : parts.flatten = bs) (hm : bs.length ≤ 140737488355328) :
    Calls Tryz.prog 58 #[v] w (RetB w bs) := by
  subst hbs
  obtain ⟨A, c, vs, rfl, hmx, hl, hr, hp⟩ := id h
  clear hr hp hl vs
  have hR := Lib.hid h
  clear h
  unfold maxLen at hmx
  go_enter Tryz.func58, Tryz.ntmps58
  go_wp2_with fail
  go_loopw [3, 5, 8] (fun s _ i wr => ∃ k : Nat, k ≤ parts.length ∧ i = .int .i64 k ∧ OB wr w.heap.size s (parts.take k).flatten ∧ Below w.heap.size w wr) (fun _ _ i _ => parts.length - (intOf i).toNat)
  case atStart => exact ⟨0, by omega, rfl, OB.nil _ _, Below.refl _ _⟩
  case round =>
    obtain ⟨k, hk, rfl, hO, hB⟩ := hrel
    have hO' := Lib.hid hO
    have hB' := Lib.hid hB
    have hM := Lib.hid hm
    clear hO hB hm
    by_cases hlt : k < parts.length
    · obtain ⟨ad, B, d, rfl, hcell, hb, hm2, hrb⟩ := hR.out.at_ hlt
      have hcell2 := cell_below hB'.out hcell
      have hrb' := Lib.hid (hrb.below hB'.out)
      have hle : Hid ((parts.take k).flatten.length + parts[k].length ≤ parts.flatten.length) := Lib.hid (by
        have e : parts.flatten = (parts.take k).flatten ++ parts[k] ++ (parts.drop (k + 1)).flatten := by
          conv => lhs; rw [← List.take_append_drop k parts, List.flatten_append, List.drop_eq_getElem_cons hlt, List.flatten_cons]
          rw [List.append_assoc]
        rw [e]; simp)
      clear hb hcell hrb
      go_wp2_with (at_builtin; refine list_of_wp rfl (wp_append_B _ _ rfl w.heap.size u3 (.slice B parts[k].length d) (parts.take k).flatten parts[k] _ rfl rfl hO'.out rfl hrb'.out ?c1 ?c2 ?_))
      case c1 => have h1 := hle.out; have h2 := hM.out; omega
      case c2 => exact hB'.out.size
      intro v' w1 h1 h2 _
      have h1' := Lib.hid h1
      have h2' := Lib.hid (hB'.out.grown h2 hB'.out.size (own_ge hO'.out))
      clear h1 h2
      go_wp2_with fail
      go_roundw
      case rel => exact ⟨k + 1, by omega, by go_num, by rw [flat_snoc _ _ hlt]; exact h1'.out, h2'.out⟩
      case measure => simp [intOf]; omega
    · go_wp2_with fail
      have hk2 : parts.take k = parts := List.take_of_length_le (by omega)
      have hO2 := hO'.out
      rw [hk2] at hO2
      go_ret
      exact RetB.mk rfl (v := u3) hO2 hB'.out
end Go.Proofs.YteeiacfddjhhkaaGreatDoor
namespace Go.Proofs.YteeiacfddjhhkaaGreatDoor
open Go.RowKit
set_option maxRecDepth 100000

def opC (o : POp) : List Value := [.int .i64 o.kind, .string o.key, .int .i64 o.n, .int .i64 o.lo]
def opsC (l : List POp) : List Value := (l.map opC).flatten
def i64ok (n : Int) : Prop := -9223372036854775808 ≤ n ∧ n ≤ 9223372036854775807
def POp.ok (o : POp) : Prop := i64ok o.kind ∧ i64ok o.n ∧ i64ok o.lo
theorem opsC_length (l : List POp) : (opsC l).length = l.length * 4 := by
  induction l with
  | nil => rfl
  | cons o r ih => simp only [opsC, List.map_cons, List.flatten_cons, List.length_append] at *; rw [ih]; simp [opC]; omega
theorem opsC_get (l : List POp) {k : Nat} (h : k < l.length) (j : Nat) (hj : j < 4) : (opsC l)[k * 4 + j]? = (opC l[k])[j]? := by
  induction l generalizing k with
  | nil => simp at h
  | cons o r ih =>
    simp only [opsC, List.map_cons, List.flatten_cons]
    cases k with
    | zero => rw [List.getElem?_append_left (by simp [opC]; omega)]; simp
    | succ k =>
      rw [List.getElem?_append_right (by simp [opC]; omega)]
      have := ih (k := k) (by simpa using h)
      have e : (k + 1) * 4 + j - (opC o).length = k * 4 + j := by simp [opC]; omega
      rw [e]
      simpa [opsC] using this
theorem ops_at {w : World} {A : Option Addr} {l : List POp} (h : RowAt w A (opsC l)) {k : Nat} (hk : k < l.length) :
    ∃ ad, A = some ad ∧ w.cell? (ad.add (k * 4)) = some (.int .i64 l[k].kind) ∧ w.cell? ⟨(ad.add (k * 4)).block, (ad.add (k * 4)).off + 1, none⟩ = some (.string l[k].key) ∧ w.cell? ⟨(ad.add (k * 4)).block, (ad.add (k * 4)).off + 2, none⟩ = some (.int .i64 l[k].n) ∧ w.cell? ⟨(ad.add (k * 4)).block, (ad.add (k * 4)).off + 3, none⟩ = some (.int .i64 l[k].lo) := by
  obtain ⟨ad, hA, h0⟩ := h (k * 4) (.int .i64 l[k].kind) (opsC_get l hk 0 (by omega))
  subst hA
  have g : ∀ j u, 0 < j → j < 4 → (opC l[k])[j]? = some u → w.cell? ⟨(ad.add (k * 4)).block, (ad.add (k * 4)).off + j, none⟩ = some u := by
    intro j u h0 hj hu
    obtain ⟨ad', hA, hc⟩ := h (k * 4 + j) u (by rw [opsC_get l hk j hj]; exact hu)
    cases hA
    rw [← add_off _ _ _ h0]
    exact hc
  exact ⟨ad, rfl, h0, g 1 _ (by omega) (by omega) rfl, g 2 _ (by omega) (by omega) rfl, g 3 _ (by omega) (by omega) rfl⟩

theorem flat_snoc' {α β : Type} (f : α → List β) (l : List α) (k : Nat) (h : k < l.length) : ((l.take (k + 1)).map f).flatten = ((l.take k).map f).flatten ++ f l[k] := by
  rw [List.take_succ_eq_append_getElem h, List.map_append, List.flatten_append]; simp
theorem flat_snoc_opt {α β : Type} (f : α → List β) (l : List α) (k : Nat) (x : α) (h : l[k]? = some x) : ((l.take (k + 1)).map f).flatten = ((l.take k).map f).flatten ++ f x := by
  obtain ⟨h1, h2⟩ := List.getElem?_eq_some_iff.1 h
  rw [flat_snoc' f l k h1, h2]
theorem flat_le {α β : Type} (f : α → List β) (b : Nat) (l : List α) {k : Nat} (hk : l.length ≤ k) (h : ∀ o ∈ l, (f o).length ≤ b) : (l.map f).flatten.length ≤ k * b := by
  refine Nat.le_trans ?_ (Nat.mul_le_mul_right b hk)
  clear hk
  induction l with
  | nil => simp
  | cons o r ih =>
    have h1 := h o List.mem_cons_self
    have h2 := ih (fun o ho => h o (List.mem_cons_of_mem _ ho))
    simp only [List.map_cons, List.flatten_cons, List.length_append, List.length_cons, Nat.add_mul]
    omega
theorem opB_length (o : POp) : (opB o).length ≤ o.key.size + 36 := by
  have h1 := natB_length o.kind.toNat
  have h2 := natB_length o.key.data.toList.length
  have h3 := numB_length o.n
  have h4 := numB_length o.lo
  simp only [opB, strB, List.length_append]
  have e : o.key.data.toList.length = o.key.size := by simp
  omega

set_option maxHeartbeats 1000000 in
theorem opsEnc_any (A : Option Addr) (c : Nat) (l : List POp) (w : World) (hr : RowAt w A (opsC l)) (hl : l.length ≤ 1000000) (hok : ∀ o ∈ l, o.ok ∧ 0 ≤ o.kind) (hk : ∀ o ∈ l, o.key.size ≤ 1000000) :
    Calls Tryz.prog 62 #[.slice A l.length c] w (RetB w (opsB l)) := by
  go_enter Tryz.func62, Tryz.ntmps62
  go_wp2_with fail
  refine (nat_any _ (by omega) _).mono ?_
  rintro e w' ⟨Av, cv, rfl, hO, hB⟩
  have hO' := Lib.hid hO
  have hB' := Lib.hid hB
  have hOK := Lib.hid hok
  have hK := Lib.hid hk
  have hR := Lib.hid hr
  clear hO hB hok hk hr
  go_wp2_with fail
  go_loopw [3, 5, 12] (fun s _ i wr => ∃ k : Nat, k ≤ l.length ∧ i = .int .i64 k ∧ OB wr w.heap.size s (natB l.length ++ ((l.take k).map opB).flatten) ∧ Below w.heap.size w wr) (fun _ _ i _ => l.length - (intOf i).toNat)
  case atStart => exact ⟨0, by omega, rfl, by simpa using hO'.out, hB'.out⟩
  case round =>
    obtain ⟨k, hk, rfl, hO, hB⟩ := hrel
    have hO2 := Lib.hid hO
    have hB2 := Lib.hid hB
    clear hO hB hO' hB'
    by_cases hlt : k < l.length
    · obtain ⟨ad, rfl, c0, c1, c2, c3⟩ := ops_at (hR.out.below hB2.out) hlt
      generalize hx : l[k] = x at *
      obtain ⟨kind, key, n, lo⟩ := x
      have hX := Lib.hid hx
      clear hx
      simp only at c0 c1 c2 c3
      have hx := hOK.out _ (List.getElem_mem hlt)
      have hxk := hK.out _ (List.getElem_mem hlt)
      rw [hX.out] at hx hxk
      obtain ⟨⟨⟨k0, k1⟩, ⟨n0, n1⟩, ⟨l0, l1⟩⟩, kpos⟩ := hx
      simp only at k0 k1 n0 n1 l0 l1 kpos hxk
      have kle : kind < 18446744073709551616 := by omega
      have kwr : IntKind.u64.wrap kind = kind := by rw [IntKind.wrap_u64]; omega
      have kel : key.size ≤ 140737488355000 := by omega
      have hB3 := Lib.hid (below_alloc hB2.out (.cells #[.int .i64 kind, .string key, .int .i64 n, .int .i64 lo] 108))
      have hO3 : Hid (OB (wr.alloc (.cells #[.int .i64 kind, .string key, .int .i64 n, .int .i64 lo] 108)).drew w.heap.size u3 _) := Lib.hid (OB.below hO2.out ((Below.refl _ _).alloc (Nat.le_refl _) (.cells #[.int .i64 kind, .string key, .int .i64 n, .int .i64 lo] 108)).drew)
      have hfl : Hid ([natB kind.toNat, strB key.data.toList, numB n, numB lo].flatten = opB ⟨kind, key, n, lo⟩) := Lib.hid (by simp [opB])
      have hol := opB_length ⟨kind, key, n, lo⟩
      have hflat : Hid ((opB ⟨kind, key, n, lo⟩).length ≤ 140737488355328) := Lib.hid (by
        simp only at hol
        omega)
      have hsum : Hid ((List.map opB (List.take k l)).flatten.length ≤ k * 1000036) := Lib.hid (flat_le _ _ _ (by simp; omega) (fun o ho => by
        have h1 := opB_length o
        have h2 := hK.out o (List.mem_of_mem_take ho)
        omega))
      have hne : Hid (some wr.heap.size ≠ u3.ownBlock) := Lib.hid (fun h => by have := (hO2.out.lt _ h.symm).2; omega)
      have hb9 : Hid ((natB l.length ++ (List.map opB (List.take k l)).flatten).length + (opB ⟨kind, key, n, lo⟩).length ≤ 140737488355328) := Lib.hid (by
        have h1 := natB_length l.length
        have h2 := hsum.out
        simp only at hol
        rw [List.length_append]
        omega)
      clear hol
      go_wp2_with fail
      go_region_held3 (fun w' => w'.cell? ⟨wr.heap.size, 0, none⟩ = some (.int .i64 kind) ∧ w'.cell? ⟨wr.heap.size, 1, none⟩ = some (.string key) ∧ w'.cell? ⟨wr.heap.size, 2, none⟩ = some (.int .i64 n) ∧ w'.cell? ⟨wr.heap.size, 3, none⟩ = some (.int .i64 lo))
        (first | (go_split_ands; exact ⟨hG9.out.cell (by assumption) hne.out, hG9.out.cell (by assumption) hne.out, hG9.out.cell (by assumption) hne.out, hG9.out.cell (by assumption) hne.out⟩) | (go_split_ands; exact ⟨cell_below hU8.out (by assumption), cell_below hU8.out (by assumption), cell_below hU8.out (by assumption), cell_below hU8.out (by assumption)⟩) | (go_split_ands; exact ⟨cell_below hB7.out (by assumption), cell_below hB7.out (by assumption), cell_below hB7.out (by assumption), cell_below hB7.out (by assumption)⟩) | (go_split_ands; exact ⟨cell_below hB6.out (by assumption), cell_below hB6.out (by assumption), cell_below hB6.out (by assumption), cell_below hB6.out (by assumption)⟩) | (go_split_ands; exact ⟨cell_below hB5.out (by assumption), cell_below hB5.out (by assumption), cell_below hB5.out (by assumption), cell_below hB5.out (by assumption)⟩) | (go_split_ands; exact ⟨cell_below hB4.out (by assumption), cell_below hB4.out (by assumption), cell_below hB4.out (by assumption), cell_below hB4.out (by assumption)⟩) | go_keep)
        ((first
          | (go_at_call 57; refine (nat_int kind kpos kle _).mono ?_; rintro e w4 ⟨A4, d4, rfl, hO4_, hB4_⟩; have hO4 := Lib.hid hO4_; have hB4 := Lib.hid hB4_; clear hO4_ hB4_)
          | (go_at_call 61; refine (str_any key kel _).mono ?_; rintro e w5 ⟨A5, d5, rfl, hO5_, hB5_⟩; have hO5 := Lib.hid hO5_; have hB5 := Lib.hid hB5_; clear hO5_ hB5_)
          | (go_at_call 59; have _t := hO6; refine (num_any lo l0 l1 _).mono ?_; rintro e w7 ⟨A7, d7, rfl, hO7_, hB7_⟩; have hO7 := Lib.hid hO7_; have hB7 := Lib.hid hB7_; clear hO7_ hB7_)
          | (go_at_call 59; refine (num_any n n0 n1 _).mono ?_; rintro e w6 ⟨A6, d6, rfl, hO6_, hB6_⟩; have hO6 := Lib.hid hO6_; have hB6 := Lib.hid hB6_; clear hO6_ hB6_)
          | (go_at_call 58; refine (seq_any _ [natB kind.toNat, strB key.data.toList, numB n, numB lo] (opB ⟨kind, key, n, lo⟩) _ (RP.made4 (RB.of_own (((hO4.out.below hB5.out).below hB6.out).below hB7.out)) (RB.of_own ((hO5.out.below hB6.out).below hB7.out)) (RB.of_own (hO6.out.below hB7.out)) (RB.of_own hO7.out)) hfl.out hflat.out).mono ?_; rintro e w8 ⟨A8, d8, rfl, hO8_, hB8_⟩; have hO8 := Lib.hid hO8_; have hU8 := Lib.hid hB8_; have hB8 := Lib.hid (bboxed hB8_); clear hO8_ hB8_)
          | (refine step_of_wp rfl ?_; refine wp_append_B _ _ rfl w.heap.size u3 _ _ _ _ rfl rfl (((((hO3.out.below hB4.out).below hB5.out).below hB6.out).below hB7.out).below hB8.out) rfl (RB.of_own hO8.out) hb9.out (bnext (bnext (bnext (bnext (bnext hB3.out.drew hB4.out) hB5.out) hB6.out) hB7.out) hB8.out).size ?_; intro v9 w9 hO9_ hG9_ _; have hO9 := Lib.hid hO9_; have hG9 := Lib.hid hG9_; clear hO9_ hG9_)))
      have hBf := (bnext (bnext (bnext (bnext (bnext hB3.out.drew hB4.out) hB5.out) hB6.out) hB7.out) hB8.out)
      have hBf2 := Lib.hid (hBf.grown hG9.out hBf.size (own_ge hO2.out))
      clear hBf
      go_wp2_with fail
      go_roundw
      case rel => exact ⟨k + 1, by omega, by go_num, by rw [flat_snoc' _ _ _ hlt, hX.out, ← List.append_assoc]; exact hO9.out, hBf2.out⟩
      case measure => simp [intOf]; omega
    · go_wp2_with fail
      have hk2 : l.take k = l := List.take_of_length_le (by omega)
      have hO3 := hO2.out
      rw [hk2] at hO3
      go_ret
      exact RetB.mk rfl (v := u3) hO3 hB2.out
end Go.Proofs.YteeiacfddjhhkaaGreatDoor
namespace Go.Proofs.YteeiacfddjhhkaaGreatDoor
open Go.RowKit
set_option maxRecDepth 100000

theorem let_cases (x : UInt8) : (97 ≤ (x.toNat : Int) ∧ (x.toNat : Int) ≤ 122 ∧ letC x = true) ∨ (48 ≤ (x.toNat : Int) ∧ (x.toNat : Int) ≤ 57 ∧ letC x = true) ∨ (46 ≤ (x.toNat : Int) ∧ (x.toNat : Int) ≤ 46 ∧ letC x = true) ∨
    (95 ≤ (x.toNat : Int) ∧ (x.toNat : Int) ≤ 95 ∧ letC x = true) ∨ ((x.toNat : Int) < 48 ∧ ((x.toNat : Int) == 46) = false ∧ letC x = false) ∨ (57 < (x.toNat : Int) ∧ (x.toNat : Int) < 97 ∧ ((x.toNat : Int) == 95) = false ∧ letC x = false) ∨ (122 < (x.toNat : Int) ∧ ((x.toNat : Int) == 46) = false ∧ ((x.toNat : Int) == 95) = false ∧ letC x = false) := by
  have e : letC x = (decide (97 ≤ x.toNat ∧ x.toNat ≤ 122) || decide (48 ≤ x.toNat ∧ x.toNat ≤ 57) || x.toNat == 46 || x.toNat == 95) := by
    simp [letC]
  by_cases a1 : 97 ≤ x.toNat ∧ x.toNat ≤ 122
  · exact .inl ⟨by omega, by omega, by rw [e]; simp [a1]⟩
  by_cases a2 : 48 ≤ x.toNat ∧ x.toNat ≤ 57
  · exact .inr (.inl ⟨by omega, by omega, by rw [e]; simp [a2]⟩)
  by_cases a3 : x.toNat = 46
  · exact .inr (.inr (.inl ⟨by omega, by omega, by rw [e]; simp [a3]⟩))
  by_cases a4 : x.toNat = 95
  · exact .inr (.inr (.inr (.inl ⟨by omega, by omega, by rw [e]; simp [a4]⟩)))
  have f : letC x = false := by rw [e]; simp [a3, a4]; omega
  have g46 : ((x.toNat : Int) == 46) = false := by simp; omega
  have g95 : ((x.toNat : Int) == 95) = false := by simp; omega
  by_cases a5 : x.toNat < 48
  · exact .inr (.inr (.inr (.inr (.inl ⟨by omega, g46, f⟩))))
  by_cases a6 : x.toNat < 97
  · exact .inr (.inr (.inr (.inr (.inr (.inl ⟨by omega, by omega, g95, f⟩)))))
  · exact .inr (.inr (.inr (.inr (.inr (.inr ⟨by omega, g46, g95, f⟩)))))
theorem letters_any (s : ByteArray) (hs : s.size ≤ 1000000) (w : World) :
    Calls Tryz.prog 150 #[.string s] w fun e w' => e = .returned (.bool (letS s.data.toList)) ∧ Below w.heap.size w w' := by
  go_enter Tryz.func150, Tryz.ntmps150
  go_wp2_with (refine list_of_wp rfl ?_; refine wp_conv_SB (.tmp 5) s (by omega) rfl rfl ?_; intro A c w1 hR_ hB_)
  have hR := Lib.hid hR_
  have hB := Lib.hid hB_
  clear hR_ hB_
  go_wp2_with fail
  go_loop [4, 8] (fun _ i => ∃ k : Nat, k ≤ s.size ∧ i = .int .i64 k ∧ Hid ((s.data.toList.take k).all letC = true)) (fun _ i => s.size - (intOf i).toNat)
  case atStart => exact ⟨0, by omega, rfl, rfl⟩
  case round =>
    obtain ⟨k, hk, rfl, hl⟩ := hrel
    by_cases hlt : k < s.size
    · have hk2 : k < s.data.toList.length := by simpa using hlt
      obtain ⟨ad, rfl, hc⟩ := hR.out.at_ hk2
      generalize hx : s.data.toList[k] = x at *
      have hX := Lib.hid hx
      clear hx
      have hx1 := x.toNat_lt
      have hgood : letC x = true → Hid ((s.data.toList.take (k + 1)).all letC = true) := fun h => Lib.hid (by rw [List.take_succ_eq_append_getElem hk2, List.all_append, hl.out, hX.out]; simp [h])
      have hbad : letC x = false → Hid (letS s.data.toList = false) := fun h => Lib.hid (by
        have : s.data.toList.all letC = false := by
          rw [← List.take_append_drop k s.data.toList, List.all_append, List.drop_eq_getElem_cons hk2, List.all_cons, hX.out, h]
          simp
        simp [letS, this])
      have hGood := Lib.hid hgood
      have hBad := Lib.hid hbad
      clear hgood hbad
      rcases let_cases x with ⟨h1, h2, h3⟩ | ⟨h1, h2, h3⟩ | ⟨h1, h2, h3⟩ | ⟨h1, h2, h3⟩ | ⟨h1, h2, h3⟩ | ⟨h1, h2, h4, h3⟩ | ⟨h1, h2, h4, h3⟩
      · have hG := hGood.out h3
        clear h3
        go_wp2_with fail
        go_round
        case rel => exact ⟨k + 1, by omega, by go_num, hG⟩
        case measure => simp [intOf]; omega
      · have hG := hGood.out h3
        clear h3
        go_wp2_with fail
        go_round
        case rel => exact ⟨k + 1, by omega, by go_num, hG⟩
        case measure => simp [intOf]; omega
      · have hG := hGood.out h3
        clear h3
        have h4 : ((x.toNat : Int) == 46) = true := by simp; omega
        go_wp2_with fail
        go_round
        case rel => exact ⟨k + 1, by omega, by go_num, hG⟩
        case measure => simp [intOf]; omega
      · have hG := hGood.out h3
        clear h3
        have h4 : ((x.toNat : Int) == 46) = false := by simp; omega
        have h5 : ((x.toNat : Int) == 95) = true := by simp; omega
        go_wp2_with fail
        go_round
        case rel => exact ⟨k + 1, by omega, by go_num, hG⟩
        case measure => simp [intOf]; omega
      · have hG := hBad.out h3
        clear h3
        have h4 : ((x.toNat : Int) == 46) = false := h2
        have h5 : ((x.toNat : Int) == 95) = false := by simp; omega
        go_wp2_with fail
        go_ret
        exact ⟨ret_bool hG.out.symm, hB.out⟩
      · have hG := hBad.out h3
        clear h3
        have h6 : ((x.toNat : Int) == 46) = false := by simp; omega
        have h7 : decide ((x.toNat : Int) ≤ 57) = false := by simp; omega
        have h5 : ((x.toNat : Int) == 95) = false := h4
        go_wp2_with fail
        go_ret
        exact ⟨ret_bool hG.out.symm, hB.out⟩
      · have hG := hBad.out h3
        clear h3
        have h6 : ((x.toNat : Int) == 46) = false := h2
        have h7 : decide ((x.toNat : Int) ≤ 57) = false := by simp; omega
        have h8 : decide ((x.toNat : Int) ≤ 122) = false := by simp; omega
        have h5 : ((x.toNat : Int) == 95) = false := h4
        go_wp2_with fail
        go_ret
        exact ⟨ret_bool hG.out.symm, hB.out⟩
    · have hk2 : s.data.toList.take k = s.data.toList := List.take_of_length_le (by simp; omega)
      have hl2 := hl.out
      rw [hk2] at hl2
      go_wp2_with fail
      go_ret
      exact ⟨ret_bool (by rw [letS, hl2]; simp [ByteArray.toList_eq]; done), hB.out⟩
theorem key_any (s : ByteArray) (hs : s.size ≤ 1000000) (w : World) :
    Calls Tryz.prog 127 #[.string s] w fun e w' => e = .returned (.bool (keyS s.data.toList)) ∧ Below w.heap.size w w' := by
  by_cases h : (s.size : Int) ≤ 16
  · have hd : decide ((s.size : Int) ≤ 16) = true := by simpa using h
    have hk : Hid (keyS s.data.toList = letS s.data.toList) := Lib.hid (by
      have : s.data.toList.length ≤ 16 := by simp; omega
      simp only [keyS, decide_eq_true this, Bool.true_and])
    go_enter Tryz.func127, Tryz.ntmps127
    go_wp2_with fail
    refine (letters_any s hs _).mono ?_
    rintro e w1 ⟨rfl, hB⟩
    go_wp2_with fail
    go_ret
    exact ⟨ret_bool hk.out.symm, hB⟩
  · have hd : decide ((s.size : Int) ≤ 16) = false := by simpa using h
    have hk : Hid (keyS s.data.toList = false) := Lib.hid (by
      have : ¬ s.data.toList.length ≤ 16 := by simp; omega
      simp only [keyS, decide_eq_false this, Bool.false_and])
    go_enter Tryz.func127, Tryz.ntmps127
    go_wp2_with fail
    go_ret
    exact ⟨ret_bool hk.out.symm, Below.refl _ _⟩
/-- May the numbers of an operation be so? -/
def plainO (o : POp) : Bool :=
  if o.kind == 1 || o.kind == 3 then (!(o.n != 0) && o.lo == 0) else if o.kind == 2 || o.kind == 4 || o.kind == 6 then o.lo == 0 else o.kind == 5
def opV (o : POp) : Value := .agg #[.int .i64 o.kind, .string o.key, .int .i64 o.n, .int .i64 o.lo]
theorem plain_any (o : POp) (w : World) :
    Calls Tryz.prog 126 #[opV o] w fun e w' => e = .returned (.bool (plainO o)) ∧ Below w.heap.size w w' := by
  obtain ⟨kind, key, n, lo⟩ := o
  show Calls Tryz.prog 126 #[.agg #[.int .i64 kind, .string key, .int .i64 n, .int .i64 lo]] w _
  go_enter Tryz.func126, Tryz.ntmps126
  go_wp2_with fail
  all_goals
    go_ret
    refine ⟨ret_bool ?_, below_alloc (Below.refl _ _) _⟩
    simp only [plainO, *]
    try simp
end Go.Proofs.YteeiacfddjhhkaaGreatDoor
namespace Go.Proofs.YteeiacfddjhhkaaGreatDoor
open Go.RowKit
set_option maxRecDepth 100000

def goodO (o : POp) : Bool := plainO o && keyS o.key.data.toList
def checkO (l : List POp) : Int := if 8 < l.length then 7 else if l.all goodO then 0 else 2
/-- An error, or none, by its number. -/
def RetX (w : World) (c : Int) (en : Ending) (w' : World) : Prop := (c = 0 ∧ en = .returned .nilIface ∧ Below w.heap.size w w') ∨ (c ≠ 0 ∧ RetE w c en w')
theorem RetX.of_err {w w0 w' : World} {c c' : Int} {en : Ending} (hc : c' = c) (h0 : c ≠ 0) (hb : Below w.heap.size w w0) (h : RetE w0 c en w') : RetX w c' en w' := by
  subst hc
  obtain ⟨T, b, h1, h2, h3⟩ := h
  exact .inr ⟨h0, T, b, h1, h2, bnext hb h3⟩

theorem opsCheck_any (A : Option Addr) (c : Nat) (l : List POp) (w : World) (hr : RowAt w A (opsC l)) (hl : l.length ≤ 1000000) (hk : ∀ o ∈ l, o.key.size ≤ 1000000) :
    Calls Tryz.prog 129 #[.slice A l.length c] w (RetX w (checkO l)) := by
  by_cases h8 : 8 < l.length
  · have hC : Hid (checkO l = 7) := Lib.hid (by rw [checkO, if_pos h8])
    go_enter Tryz.func129, Tryz.ntmps129
    go_wp2_with fail
    refine (new_err 7 (by decide) _).mono ?_
    rintro e w1 ⟨T, b, rfl, hE, hB⟩
    have hE' := Lib.hid hE
    have hB' := Lib.hid hB
    clear hE hB
    go_wp2_with fail
    refine (bound_any _ _ _ 7 _ hE'.out).mono ?_
    rintro e w2 ⟨T2, b2, rfl, hE2, hB2⟩
    have hX := Lib.hid (RetX.of_err hC.out (by decide) hB'.out ⟨T2, b2, rfl, hE2, hB2⟩)
    clear hE2 hB2
    go_wp2_with fail
    go_ret
    exact hX.out
  · have hR := Lib.hid hr
    have hK := Lib.hid hk
    clear hr hk
    go_enter Tryz.func129, Tryz.ntmps129
    go_wp2_with fail
    go_loopw [3, 4, 14] (fun _ _ i wr => ∃ k : Nat, k ≤ l.length ∧ i = .int .i64 k ∧ Hid ((l.take k).all goodO = true) ∧ Below w.heap.size w wr) (fun _ _ i _ => l.length - (intOf i).toNat)
    case atStart => exact ⟨0, by omega, rfl, rfl, Below.refl _ _⟩
    case round =>
      obtain ⟨k, hk, rfl, hG, hB_⟩ := hrel
      have hB := Lib.hid hB_
      clear hB_
      by_cases hlt : k < l.length
      · obtain ⟨ad, rfl, c0, c1, c2, c3⟩ := ops_at (hR.out.below hB.out) hlt
        have hxk := hK.out _ (List.getElem_mem hlt)
        have hgood : goodO l[k] = true → Hid ((l.take (k + 1)).all goodO = true) := fun h => Lib.hid (by rw [List.take_succ_eq_append_getElem hlt, List.all_append, hG.out]; simp [h])
        have hbad : goodO l[k] = false → Hid (checkO l = 2) := fun h => Lib.hid (by
          have : l.all goodO = false := by
            rw [← List.take_append_drop k l, List.all_append, List.drop_eq_getElem_cons hlt, List.all_cons, h]
            simp
          rw [checkO, if_neg h8, this]; rfl)
        have hGood := Lib.hid hgood
        have hBad := Lib.hid hbad
        clear hgood hbad
        generalize hx : l[k] = x at *
        have hX := Lib.hid hx
        clear hx
        have hp := plain_any x
        obtain ⟨kind, key, n, lo⟩ := x
        simp only at c0 c1 c2 c3 hxk
        have hP := Lib.hid hp
        clear hp
        have hky := Lib.hid (key_any key hxk)
        have hB1 := Lib.hid (below_alloc hB.out (.cells #[.int .i64 kind, .string key, .int .i64 n, .int .i64 lo] 108))
        go_wp2_with fail
        refine (hP.out _).mono ?_
        rintro e w1 ⟨rfl, hB2_⟩
        have hB2 := Lib.hid (bnext hB1.out hB2_)
        have hcell := cell_below hB2_ (a := ⟨wr.heap.size, 1, none⟩) (v := .string key) (by simp)
        clear hB2_
        by_cases hpl : plainO ⟨kind, key, n, lo⟩ = true
        · rw [hpl]
          go_wp2_with fail
          refine (hky.out _).mono ?_
          rintro e w2 ⟨rfl, hB3_⟩
          have hB3 := Lib.hid (bnext hB2.out hB3_)
          clear hB3_
          by_cases hks : keyS key.data.toList = true
          · have hgg := hGood.out (by simp [goodO, hpl, hks])
            rw [hks]
            clear hpl hks
            go_wp2_with fail
            go_roundw
            case rel => exact ⟨k + 1, by omega, by go_num, hgg, hB3.out⟩
            case measure => simp [intOf]; omega
          · have hgg := hBad.out (by simp [goodO, hpl, hks])
            have hks' : keyS key.data.toList = false := by simpa using hks
            rw [hks']
            clear hpl hks hks'
            go_wp2_with fail
            refine (new_err 2 (by decide) _).mono ?_
            rintro e w8 ⟨T, b, rfl, hE_, hB8_⟩
            have hE := Lib.hid hE_
            have hB8 := Lib.hid (bnext hB3.out hB8_)
            clear hE_ hB8_
            go_wp2_with fail
            refine (at_any _ _ 2 _ hE.out).mono ?_
            rintro e w9 ⟨T2, b2, rfl, hE2, hB9⟩
            have hX9 := Lib.hid (RetX.of_err hgg.out (by decide) hB8.out ⟨T2, b2, rfl, hE2, hB9⟩)
            clear hE2 hB9
            go_wp2_with fail
            go_ret
            exact hX9.out
        · have hpl' : plainO ⟨kind, key, n, lo⟩ = false := by simpa using hpl
          have hgg := hBad.out (by simp [goodO, hpl'])
          rw [hpl']
          clear hpl hpl'
          go_wp2_with fail
          refine (new_err 2 (by decide) _).mono ?_
          rintro e w8 ⟨T, b, rfl, hE_, hB8_⟩
          have hE := Lib.hid hE_
          have hB8 := Lib.hid (bnext hB2.out hB8_)
          clear hE_ hB8_
          go_wp2_with fail
          refine (at_any _ _ 2 _ hE.out).mono ?_
          rintro e w9 ⟨T2, b2, rfl, hE2, hB9⟩
          have hX9 := Lib.hid (RetX.of_err hgg.out (by decide) hB8.out ⟨T2, b2, rfl, hE2, hB9⟩)
          clear hE2 hB9
          go_wp2_with fail
          go_ret
          exact hX9.out
      · have hk2 : l.take k = l := List.take_of_length_le (by omega)
        have hG2 := hG.out
        rw [hk2] at hG2
        have hC : Hid (checkO l = 0) := Lib.hid (by rw [checkO, if_neg h8, hG2]; rfl)
        go_wp2_with fail
        go_ret
        exact .inl ⟨hC.out, rfl, hB.out⟩
end Go.Proofs.YteeiacfddjhhkaaGreatDoor
