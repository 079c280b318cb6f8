/- The words of this seat's proofs: bytes as cells, rows that are read, what a call leaves as it was, and small laws on them. -/
import Derived.Test.YteeiacfddjhhkaaGreatDoorProg
import Derived.WalkKit
import Derived.KernelRfl
import Derived.OneCell
import Derived.Lib.Hide
import Derived.Deep.QuietTactic
import Derived.BigQuiet
import Derived.Maps.AppendAt
import Derived.Laws.AppendOwnNone
import Derived.Lib.AppendStr
import Derived.Lib.ConvBytes
namespace Go.Proofs.YteeiacfddjhhkaaGreatDoor
open Go.RowKit
set_option maxRecDepth 100000

/-- Bytes as cells. -/
def u8s (bs : List UInt8) : List Value := bs.map fun b => .int .u8 (b.toNat : Int)
theorem u8s_length (bs : List UInt8) : (u8s bs).length = bs.length := by simp [u8s]
theorem u8s_append (a b : List UInt8) : u8s (a ++ b) = u8s a ++ u8s b := by simp [u8s]
theorem u8s_get {bs : List UInt8} {j : Nat} {b : UInt8} (h : bs[j]? = some b) : (u8s bs)[j]? = some (.int .u8 (b.toNat : Int)) := by simp [u8s, h]
theorem u8s_one (bs : List UInt8) : ∀ u ∈ u8s bs, u.oneCell' = true := by
  intro u hu
  simp [u8s] at hu
  obtain ⟨b, _, rfl⟩ := hu
  rfl
theorem u8s_inj {a b : List UInt8} (h : u8s a = u8s b) : a = b := by
  unfold u8s at h
  refine List.map_inj_right (fun x y hxy => ?_) |>.1 h
  simp at hxy
  exact UInt8.toNat_inj.1 (by omega)
/-- A byte out of a number. -/
def u8 (n : Int) : UInt8 := UInt8.ofNat n.toNat
theorem u8_toNat {n : Int} (h0 : 0 ≤ n) (h1 : n < 256) : ((u8 n).toNat : Int) = n := by
  unfold u8
  rw [UInt8.toNat_ofNat']
  omega
theorem byte_lt (b : UInt8) : (b.toNat : Int) < 256 := by have := b.toNat_lt; omega

theorem add_plain (g j : Nat) : (⟨g, 0, none⟩ : Addr).add j = ⟨g, j, none⟩ := by unfold Addr.add; split <;> simp_all
theorem add_block (a : Addr) (j : Nat) : (a.add j).block = a.block := by unfold Addr.add; split <;> rfl
theorem add_add (a : Addr) (i j : Nat) : (a.add i).add j = a.add (i + j) := by
  unfold Addr.add
  by_cases hi : i = 0
  · subst hi; simp
  · by_cases hj : j = 0
    · subst hj; simp [hi]
    · simp [hi, hj, Nat.add_assoc]

theorem add_off (a : Addr) (i j : Nat) (hj : 0 < j) : a.add (i + j) = ⟨(a.add i).block, (a.add i).off + j, none⟩ := by
  rw [← add_add]
  show (if j = 0 then _ else _) = _
  rw [if_neg (by omega)]
/-- A row of cells that is read at A. -/
def RowAt (w : World) (A : Option Addr) (cs : List Value) : Prop := ∀ j u, cs[j]? = some u → ∃ ad, A = some ad ∧ w.cell? (ad.add j) = some u
theorem RowAt.nil (w : World) (A : Option Addr) : RowAt w A [] := fun j u h => by simp at h
theorem RowAt.get {w : World} {A : Option Addr} {cs : List Value} (h : RowAt w A cs) {j : Nat} (hj : j < cs.length) : ∃ ad, A = some ad ∧ w.cell? (ad.add j) = some cs[j] := h j _ (List.getElem?_eq_getElem hj)
/-- It hangs on its own block alone. -/
theorem RowAt.move {w w' : World} {A : Option Addr} {cs : List Value} (h : RowAt w A cs) (hb : ∀ ad, A = some ad → w'.heap[ad.block]? = w.heap[ad.block]?) : RowAt w' A cs := by
  intro j u hu
  obtain ⟨ad, hA, hc⟩ := h j u hu
  exact ⟨ad, hA, (World.cell?_of_block (by rw [add_block]; exact hb ad hA)).trans hc⟩
theorem RowAt.below {w w' : World} {A : Option Addr} {cs : List Value} (h : RowAt w A cs) (hb : Below w.heap.size w w') : RowAt w' A cs := by
  intro j u hu
  obtain ⟨ad, hA, hc⟩ := h j u hu
  exact ⟨ad, hA, (hb.cell (World.block_lt_of_cell? w _ hc)).trans hc⟩
theorem RowAt.take {w : World} {A : Option Addr} {cs : List Value} (h : RowAt w A cs) (k : Nat) : RowAt w A (cs.take k) := by
  intro j u hu
  rw [List.getElem?_take] at hu
  split at hu
  · exact h j u hu
  · cases hu
theorem RowAt.drop {w : World} {ad : Addr} {cs : List Value} (h : RowAt w (some ad) cs) (k : Nat) : RowAt w (some (ad.add k)) (cs.drop k) := by
  intro j u hu
  rw [List.getElem?_drop] at hu
  obtain ⟨ad', hA, hc⟩ := h _ u hu
  cases hA
  exact ⟨_, rfl, by rw [add_add]; exact hc⟩
theorem RowAt.of_own {w : World} {base n size : Nat} {e : TypeId} {v : Value} {xs : List Value} {A : Option Addr} {m c : Nat} (h : w.ownsRow base e size v n xs) (hv : v = .slice A m c) : RowAt w A xs := by
  intro j u hu
  rcases h.2 with ⟨rfl, h0⟩ | ⟨g, cap, cur, rfl, hb, hgg, _, _, _, htake⟩
  · have : xs = [] := List.eq_nil_of_length_eq_zero (by rw [h.1, h0]; simp)
    rw [this] at hu
    simp at hu
  · cases hv
    exact ⟨_, rfl, h.cells (g := g) rfl j u hu⟩
/-- A row that a call has just laid. -/
theorem RowAt.made {w : World} {cs : Array Value} {T : TypeId} {xs : List Value} (h : cs.toList = xs) : RowAt (w.alloc (.cells cs T)) (some ⟨w.heap.size, 0, none⟩) xs := by
  intro j u hu
  refine ⟨_, rfl, ?_⟩
  rw [add_plain, World.cell?_alloc_new]
  rw [← h] at hu
  simpa using hu
/-- A row's block lies in the world. -/
theorem RowAt.lt {w : World} {ad : Addr} {cs : List Value} (h : RowAt w (some ad) cs) (hc : cs ≠ []) : ad.block < w.heap.size := by
  obtain ⟨u, hu⟩ := List.exists_mem_of_ne_nil _ hc
  obtain ⟨j, hj, _⟩ := List.getElem_of_mem hu
  obtain ⟨ad', hA, hcell⟩ := h.get hj
  cases hA
  have := World.block_lt_of_cell? w _ hcell
  rwa [add_block] at this

/-- Bytes that are read: a slice value. -/
def RB (w : World) (v : Value) (bs : List UInt8) : Prop := ∃ A c, v = .slice A bs.length c ∧ (A = none → c = 0) ∧ bs.length ≤ c ∧ c ≤ maxLen ∧ RowAt w A (u8s bs)
/-- Bytes that are owned, from base on. -/
abbrev OB (w : World) (base : Nat) (v : Value) (bs : List UInt8) : Prop := w.ownsRow base 5 1 v bs.length (u8s bs)
theorem RB.of_own {w : World} {base : Nat} {v : Value} {bs : List UInt8} (h : OB w base v bs) : RB w v bs := by
  rcases h.2 with ⟨rfl, h0⟩ | ⟨g, cap, cur, rfl, hb, hgg, h1, h2, _, htake⟩
  · have h3 : bs = [] := List.eq_nil_of_length_eq_zero h0
    subst h3
    exact ⟨none, 0, rfl, fun _ => rfl, by simp, by simp, RowAt.nil _ _⟩
  · exact ⟨_, cap, rfl, fun h => (by cases h), h1, h2, RowAt.of_own h rfl⟩
theorem RB.below {w w' : World} {v : Value} {bs : List UInt8} (h : RB w v bs) (hb : Below w.heap.size w w') : RB w' v bs := by
  obtain ⟨A, c, hv, hn, hc, hm, hr⟩ := h
  exact ⟨A, c, hv, hn, hc, hm, hr.below hb⟩
theorem RB.move {w w' : World} {v : Value} {bs : List UInt8} (h : RB w v bs) (hb : ∀ k, v.ownBlock = some k → w'.heap[k]? = w.heap[k]?) : RB w' v bs := by
  obtain ⟨A, c, rfl, hn, hc, hm, hr⟩ := h
  exact ⟨A, c, rfl, hn, hc, hm, hr.move fun ad ha => hb _ (by subst ha; rfl)⟩

theorem RB.at_ {w : World} {A : Option Addr} {n c : Nat} {bs : List UInt8} (h : RB w (.slice A n c) bs) {i : Nat} (hi : i < bs.length) : ∃ ad, A = some ad ∧ w.cell? (ad.add i) = some (.int .u8 (bs[i].toNat : Int)) := by
  obtain ⟨A', c', he, _, _, _, hr⟩ := h
  cases he
  exact hr i _ (u8s_get (List.getElem?_eq_getElem hi))
/-- Owned rows: what is new stays. -/
theorem own_below {w w1 : World} {base : Nat} {e : TypeId} {size n : Nat} {v : Value} {xs : List Value} (h : w.ownsRow base e size v n xs) (hb : Below w.heap.size w w1) : w1.ownsRow base e size v n xs :=
  h.kept (⟨hb.os, hb.tape, hb.output, hb.size, fun k hk _ => hb.block k hk⟩ : w.grownBy w1 none) (by cases v.ownBlock <;> simp)
theorem own_lower {w : World} {base base' : Nat} {e : TypeId} {size n : Nat} {v : Value} {xs : List Value} (h : w.ownsRow base e size v n xs) (hb : base' ≤ base) : w.ownsRow base' e size v n xs := by
  refine ⟨h.1, ?_⟩
  rcases h.2 with h2 | ⟨g, cap, cur, hv, hg, r⟩
  · exact .inl h2
  · exact .inr ⟨g, cap, cur, hv, by omega, r⟩
theorem own_move {w w1 : World} {base : Nat} {e : TypeId} {size n : Nat} {v : Value} {xs : List Value} (h : w.ownsRow base e size v n xs) (hm : ∀ k, v.ownBlock = some k → w1.heap[k]? = w.heap[k]?) : w1.ownsRow base e size v n xs := by
  obtain ⟨h1, h2⟩ := h
  refine ⟨h1, ?_⟩
  rcases h2 with h2 | ⟨g, cap, cur, rfl, hg, hh, r⟩
  · exact .inl h2
  · exact .inr ⟨g, cap, cur, rfl, hg, (hm g (by simp [Value.ownBlock])).trans hh, r⟩
theorem own_slice {w : World} {base n : Nat} {e : TypeId} {size : Nat} {v : Value} {xs : List Value} (h : w.ownsRow base e size v n xs) : ∃ A c, v = .slice A n c := by
  rcases h.2 with ⟨rfl, rfl⟩ | ⟨g, cap, cur, rfl, _⟩
  · exact ⟨none, 0, rfl⟩
  · exact ⟨_, cap, rfl⟩
theorem own_ge {w : World} {base n : Nat} {e : TypeId} {size : Nat} {v : Value} {xs : List Value} (h : w.ownsRow base e size v n xs) (k : Nat) (hk : v.ownBlock = some k) : base ≤ k := (h.lt k hk).1

theorem block_setCell {w : World} {g : Nat} {arr : Array Value} {e : TypeId} {fr : Nat × Nat} (h : w.heap[g]? = some (.cells arr e fr)) (i : Nat) (v : Value) : (w.setCell ⟨g, i, none⟩ v).heap[g]? = some (.cells (arr.setIfInBounds i v) e fr) := by
  simp only [World.setCell, Array.getElem?_modify, if_true, h]
  simp
theorem block_cell {w : World} {g : Nat} {arr : Array Value} {e : TypeId} {fr : Nat × Nat} (h : w.heap[g]? = some (.cells arr e fr)) (i : Nat) : w.cell? ⟨g, i, none⟩ = arr[i]? := by simp [World.cell?, h]
theorem block_free {w : World} {g : Nat} {arr : Array Value} {e : TypeId} (h : w.heap[g]? = some (.cells arr e (0, 0))) (i : Nat) : w.frozen? ⟨g, i, none⟩ = false := by simp [World.frozen?, h]

theorem below_alloc {w W : World} (h : Below w.heap.size w W) (o : Obj) : Below w.heap.size w (W.alloc o) := h.alloc h.size o
theorem below_then {B : Nat} {w w1 w2 : World} (h : Below B w w1) (hB : B ≤ w1.heap.size) (k : Below w1.heap.size w1 w2) : Below B w w2 :=
  h.trans ⟨k.os, k.tape, k.output, k.size, fun i hi => k.block i (Nat.lt_of_lt_of_le hi hB)⟩
theorem bnext {w w1 w2 : World} (h : Below w.heap.size w w1) (k : Below w1.heap.size w1 w2) : Below w.heap.size w w2 := below_then h h.size k
theorem bboxed {w w1 : World} {o : Obj} (h : Below (w.alloc o).heap.size (w.alloc o) w1) : Below w.heap.size w w1   := bnext ((Below.refl _ _).alloc (Nat.le_refl _) _) h
theorem below_drewN {B : Nat} {w W : World} (h : Below B w W) (n : Nat) : Below B w (W.drewN n) := ⟨h.os, h.tape, h.output, h.size, h.block⟩
theorem cell_below {w w1 : World} (h : Below w.heap.size w w1) {a : Addr} {v : Value} (hc : w.cell? a = some v) : w1.cell? a = some v := (h.cell (World.block_lt_of_cell? w a hc)).trans hc
theorem block_below {w w1 : World} (h : Below w.heap.size w w1) {g : Nat} {o : Obj} (hc : w.heap[g]? = some o) : w1.heap[g]? = some o := (h.block g (lt_of_block hc)).trans hc

/-- What a call may have changed: blocks of S, and new ones. -/
structure Kept (S : Nat → Prop) (w w' : World) : Prop where
  os : w'.os = w.os
  tape : w'.tape = w.tape
  output : w'.output = w.output
  size : w.heap.size ≤ w'.heap.size
  block : ∀ k, k < w.heap.size → ¬ S k → w'.heap[k]? = w.heap[k]?
theorem Kept.refl (S : Nat → Prop) (w : World) : Kept S w w := ⟨rfl, rfl, rfl, Nat.le_refl _, fun _ _ _ => rfl⟩
theorem Kept.of_below {w w' : World} (S : Nat → Prop) (h : Below w.heap.size w w') : Kept S w w' := ⟨h.os, h.tape, h.output, h.size, fun k hk _ => h.block k hk⟩
theorem Kept.trans {S S' : Nat → Prop} {a b c : World} (h : Kept S a b) (k : Kept S' b c) (hs : ∀ k, k < a.heap.size → S' k → S k) : Kept S a c :=
  ⟨k.os.trans h.os, k.tape.trans h.tape, k.output.trans h.output, Nat.le_trans h.size k.size, fun i hi hn => (k.block i (Nat.lt_of_lt_of_le hi h.size) (fun hS => hn (hs i hi hS))).trans (h.block i hi hn)⟩
theorem Kept.mono {S S' : Nat → Prop} {w w' : World} (h : Kept S w w') (hs : ∀ k, S k → S' k) : Kept S' w w' := ⟨h.os, h.tape, h.output, h.size, fun k hk hn => h.block k hk (fun hS => hn (hs k hS))⟩
theorem Kept.alloc {S : Nat → Prop} {w W : World} (h : Kept S w W) (o : Obj) : Kept S w (W.alloc o) := h.trans (Kept.of_below S ((Below.refl _ _).alloc (Nat.le_refl _) o)) (fun _ _ h => h)
theorem Kept.drew {S : Nat → Prop} {w W : World} (h : Kept S w W) : Kept S w W.drew := ⟨h.os, h.tape, h.output, h.size, h.block⟩
theorem Kept.drewN {S : Nat → Prop} {w W : World} (h : Kept S w W) (n : Nat) : Kept S w (W.drewN n) := ⟨h.os, h.tape, h.output, h.size, h.block⟩
theorem Kept.setCell {S : Nat → Prop} {w W : World} (h : Kept S w W) {p : Addr} (hp : S p.block ∨ w.heap.size ≤ p.block) (u : Value) : Kept S w (W.setCell p u) :=
  ⟨h.os, h.tape, h.output, by rw [World.size_setCell]; exact h.size, fun k hk hn => by
    rw [Below.heap_setCell _ _ _ _ (by rintro rfl; rcases hp with h1 | h1; exact hn h1; omega)]
    exact h.block k hk hn⟩
theorem Kept.below {S : Nat → Prop} {w W W' : World} (h : Kept S w W) (hb : Below W.heap.size W W') : Kept S w W' := h.trans (Kept.of_below S hb) (fun _ _ h => h)
theorem Kept.to_below {S : Nat → Prop} {w W : World} (h : Kept S w W) {B : Nat} (hB : B ≤ w.heap.size) (hs : ∀ k, S k → B ≤ k) : Below B w W :=
  ⟨h.os, h.tape, h.output, h.size, fun k hk => h.block k (by omega) (fun hS => by have := hs k hS; omega)⟩

/-- A result that is one int, one bool. -/
theorem ret_int {k : IntKind} {a b : Int} (h : a = b) : Ending.returned (.int k a) = .returned (.int k b) := by rw [h]
theorem ret_bool {a b : Bool} (h : a = b) : Ending.returned (.bool a) = .returned (.bool b) := by rw [h]

theorem Tryz.infoU8 : (Tryz.prog.info? 5).map (fun i => (i.zero, i.size, i.bytes)) = some (some (.int .u8 0), 1, 1) := by kernel_rfl
theorem Tryz.infoI64 : (Tryz.prog.info? 2).map (fun i => (i.zero, i.size, i.bytes)) = some (some (.int .i64 0), 1, 8) := by kernel_rfl
theorem info_parts {P : Program} {t : TypeId} {z : Value} {s b : Nat} (h : (P.info? t).map (fun i => (i.zero, i.size, i.bytes)) = some (some z, s, b)) : ∃ i, P.info? t = some i ∧ i.zero = some z ∧ i.size = s ∧ i.bytes = b := by
  obtain ⟨i, hi, he⟩ := Option.map_eq_some_iff.1 h
  simp only [Prod.mk.injEq] at he
  exact ⟨i, hi, he.1, he.2.1, he.2.2⟩

/-- append(v, src...), v owned, src read; nil sources too. -/
theorem wp_append_row {P : Program} {w : World} {o : Oper} {a : Act} {K : Act → World → Prop} {Q : Exit → Act → World → Prop} (s x : Operand) (t : TypeId)
    (ho : o.op = .call { callee := .builtin .append, args := #[s, x], argTypes := #[t, t] })
    (base : Nat) (e : TypeId) (z : Value) (size bytes : Nat) (ht : P.underlying t = some (.slice e)) (hinfo : (P.info? e).map (fun i => (i.zero, i.size, i.bytes)) = some (some z, size, bytes)) (hzs : z.cells.size = size) (hsz : 0 < size) (hb0 : 0 < bytes)
    (v : Value) (n : Nat) (xs : List Value) (hs : a.eval s = v) (hown : w.ownsRow base e size v n xs)
    (A : Option Addr) (m c : Nat) (ns : List Value) (hx : a.eval x = .slice A m c) (hnil : A = none → c = 0) (hmc : m ≤ c) (hl : ns.length = m * size) (hrow : RowAt w A ns) (h1 : ∀ u ∈ ns, u.oneCell' = true)
    (hbytes : (n + m) * bytes ≤ 140737488355328) (hbase : base ≤ w.heap.size)
    (h : ∀ v' w', w'.ownsRow base e size v' (n + m) (xs ++ ns) → w.grownBy w' v.ownBlock → (v'.ownBlock = v.ownBlock ∨ v'.ownBlock = some w.heap.size) → K (a.put o.dst v') w') :
    o.wp P a w K Q := by
  obtain ⟨i, hi, hz, hsize, hby⟩ := info_parts hinfo
  have h63 : n + m ≤ 140737488355328 := Nat.le_trans (Nat.le_mul_of_pos_right _ hb0) hbytes
  cases A with
  | none =>
    have hc0 := hnil rfl
    subst hc0
    have hm0 : m = 0 := by omega
    subst hm0
    have hns : ns = [] := List.eq_nil_of_length_eq_zero (by simpa using hl)
    subst hns
    have hrun := run_append_owned_none (P := P) (w := w) base t o.type e i size ht hi v n xs hown
    unfold Oper.wp
    simp [execOp, ho, resolve, invoke, builtin, hs, hx, hrun, Result.andThen]
    exact h v w (by simpa using hown) ⟨rfl, rfl, rfl, Nat.le_refl _, fun _ _ _ => rfl⟩ (.inl rfl)
  | some ad =>
    have hnews : ∀ j u, ns[j]? = some u → w.cell? (ad.add j) = some u := fun j u hu => by
      obtain ⟨ad', hA, hc⟩ := hrow j u hu
      cases hA
      exact hc
    obtain ⟨v', w', hr, h2, h3, h4, h5⟩ := run_append_own_at (P := P) w base t o.type e i z size bytes ht hi hz hsize hby hzs hsz v n xs hown ad m c ns hl hnews h1 (by simp only [maxLen]; omega) hbytes hbase
    unfold Oper.wp execOp
    simp only [ho, resolve, invoke, builtin, Sem.run_bind, Sem.run_pure, Result.andThen_ok, List.map_toArray, List.map_cons, List.map_nil, hs, hx, hr]
    exact h v' w' h2 h3 h5
/-- append(v, src...) of bytes. -/
theorem wp_append_B {w : World} {o : Oper} {a : Act} {K : Act → World → Prop} {Q : Exit → Act → World → Prop} (s x : Operand)
    (ho : o.op = .call { callee := .builtin .append, args := #[s, x], argTypes := #[51, 51] })
    (base : Nat) (v src : Value) (bs ns rs : List UInt8) (hrs : bs ++ ns = rs) (hs : a.eval s = v) (hown : OB w base v bs) (hx : a.eval x = src) (hsrc : RB w src ns)
    (hbytes : bs.length + ns.length ≤ 140737488355328) (hbase : base ≤ w.heap.size)
    (h : ∀ v' w', OB w' base v' rs → w.grownBy w' v.ownBlock → (v'.ownBlock = v.ownBlock ∨ v'.ownBlock = some w.heap.size) → K (a.put o.dst v') w') :
    o.wp Tryz.prog a w K Q := by
  subst hrs
  obtain ⟨A, c, rfl, hn, hc, hm, hr⟩ := hsrc
  refine wp_append_row s x 51 ho base 5 (.int .u8 0) 1 1 Tryz.underlying51 Tryz.infoU8 rfl (by decide) (by decide) v bs.length (u8s bs) hs hown A ns.length c (u8s ns) hx hn hc (by rw [u8s_length, Nat.mul_one]) hr (u8s_one _) (by omega) hbase ?_
  intro v' w' h1 h2 h3
  refine h v' w' ?_ h2 h3
  unfold OB
  rw [List.length_append, u8s_append]
  exact h1
/-- []byte(s): new bytes that are read. -/
theorem wp_conv_SB {w : World} {o : Oper} {a : Act} {K : Act → World → Prop} {Q : Exit → Act → World → Prop} (x : Operand) (s : ByteArray) (hm : s.size ≤ 140737488355328)
    (ho : o.op = .convert 9 51 x) (hx : a.eval x = .string s)
    (h : ∀ A c w', RB w' (.slice A s.size c) s.data.toList → Below w.heap.size w w' → K (a.put o.dst (.slice A s.size c)) w') :
    o.wp Tryz.prog a w K Q := by
  have hr := Lib.run_convert_string_bytes (P := Tryz.prog) w 9 51 5 s Tryz.underlying9 Tryz.underlying51 Tryz.underlying5
  have hl : s.data.toList.length = s.size := by simp
  unfold Oper.wp execOp
  simp only [ho, hx, hr, Sem.run_bind, Sem.run_pure, Result.andThen_ok]
  refine h _ _ _ ⟨some ⟨w.heap.size, 0, none⟩, _, by rw [hl], fun h => (by cases h), ?_, ?_, ?_⟩ ⟨rfl, rfl, rfl, by rw [Lib.bytesWorld_size]; omega, fun k hk => Lib.bytesWorld_at_old w _ s k hk⟩
  · rw [hl]; exact grownCap_ge _ _ _ _
  · exact grownCap_le_maxLen _ _ _ _ (by simp only [maxLen]; omega)
  · intro j u hu
    refine ⟨_, rfl, ?_⟩
    have hj : j < s.size := by
      have := (List.getElem?_eq_some_iff.1 hu).1
      rw [u8s_length, hl] at this
      exact this
    rw [add_plain, Lib.bytesWorld_cell w _ s j hj]
    rw [u8s, List.getElem?_map, List.getElem?_eq_getElem (by rw [hl]; exact hj)] at hu
    simp only [Option.map_some, Option.some.injEq] at hu
    rw [← hu, List.getD_eq_getElem?_getD, List.getElem?_eq_getElem (by rw [hl]; exact hj)]
    rfl
/-- A step of a region that draws. -/
theorem step_of_wp {P : Program} {ops : Array Oper} {o : Oper} {a : Act} {w : World} {K : Act → World → Prop} {Q : Exit → Act → World → Prop} {E : Prop} (hgd : o.guard = none) (h : Oper.wp P o a w K Q) :
    if Region.wanted o (yielded ops a.tmps) = true then Oper.wp P o a w K Q else E := by
  have hw : Region.wanted o (yielded ops a.tmps) = true := by simp [Region.wanted, hgd]
  rw [if_pos hw]
  exact h
theorem list_of_wp {P : Program} {w : World} {ops : Array Oper} {rest : List Oper} {o : Oper} {a : Act} {Q : Exit → Act → World → Prop} (hgd : o.guard = none) (h : Oper.wp P o a w (fun a' w' => wpList P ops Q rest a' w') Q) : wpList P ops Q (o :: rest) a w := by
  refine wpList_plain hgd fun K hK => ?_
  exact Oper.wp_mono (fun a' w' h' => hK a' w' h') h
theorem wp_append_S {w : World} {o : Oper} {a : Act} {K : Act → World → Prop} {Q : Exit → Act → World → Prop} (sl x : Operand)
    (ho : o.op = .call { callee := .builtin .append, args := #[sl, x], argTypes := #[51, 9] })
    (base : Nat) (v : Value) (bs : List UInt8) (s : ByteArray) (hs : a.eval sl = v) (hown : OB w base v bs) (hx : a.eval x = .string s)
    (hbytes : bs.length + s.size ≤ 140737488355328) (hbase : base ≤ w.heap.size)
    (h : ∀ v' w', OB w' base v' (bs ++ s.data.toList) → w.grownBy w' v.ownBlock → K (a.put o.dst v') w') :
    o.wp Tryz.prog a w K Q := by
  obtain ⟨i, hi, hz, hsize, hby⟩ := info_parts Tryz.infoU8
  obtain ⟨v', w', hr, h2, h3, h4⟩ := Lib.run_append_own_string (P := Tryz.prog) w base 51 9 o.type 5 i Tryz.underlying51 Tryz.underlying9 hi hz hsize hby v bs.length (u8s bs) hown s (by simp only [maxLen]; omega) hbytes hbase
  unfold Oper.wp execOp
  simp only [ho, resolve, invoke, builtin, Sem.run_bind, Sem.run_pure, Result.andThen_ok, List.map_toArray, List.map_cons, List.map_nil, hs, hx, hr]
  refine h v' w' ?_ h3
  unfold OB
  rw [List.length_append, u8s_append, show s.data.toList.length = s.size from by simp]
  exact h2
theorem own_nil (w : World) (base : Nat) (e : TypeId) (size : Nat) : w.ownsRow base e size (.slice none 0 0) 0 [] := ⟨by simp, .inl ⟨rfl, rfl⟩⟩
theorem OB.nil (w : World) (base : Nat) : OB w base (.slice none 0 0) [] := own_nil w base _ 1
/-- A call hands back bytes of its own; what was there is as it was. -/
def RetB (w : World) (bs : List UInt8) (e : Ending) (w' : World) : Prop := ∃ A c, e = .returned (.slice A bs.length c) ∧ OB w' w.heap.size (.slice A bs.length c) bs ∧ Below w.heap.size w w'
theorem RetB.mk {w w' : World} {bs : List UInt8} {e : Ending} {v : Value} (he : e = .returned v) (ho : OB w' w.heap.size v bs) (hb : Below w.heap.size w w') : RetB w bs e w' := by
  obtain ⟨A, c, rfl⟩ := own_slice ho
  exact ⟨A, c, he, ho, hb⟩
theorem RB.made {w : World} {cs : Array Value} {T : TypeId} {bs : List UInt8} {n b : Nat} (hb : b = w.heap.size) (hc : cs.toList = u8s bs) (hn : n = bs.length) (hm : bs.length ≤ maxLen) : RB (w.alloc (.cells cs T)) (.slice (some ⟨b, 0, none⟩) n n) bs := by
  subst hn hb
  refine ⟨_, _, rfl, fun h => (by cases h), Nat.le_refl _, hm, fun j u hu => ⟨_, rfl, ?_⟩⟩
  rw [add_plain, World.cell?_alloc_new]
  rw [← hc] at hu
  simpa using hu
theorem OB.below {w w1 : World} {base : Nat} {v : Value} {bs : List UInt8} (h : OB w base v bs) (hb : Below w.heap.size w w1) : OB w1 base v bs := own_below h hb
theorem OB.lower {w : World} {base base' : Nat} {v : Value} {bs : List UInt8} (h : OB w base v bs) (hb : base' ≤ base) : OB w base' v bs := own_lower h hb
end Go.Proofs.YteeiacfddjhhkaaGreatDoor
