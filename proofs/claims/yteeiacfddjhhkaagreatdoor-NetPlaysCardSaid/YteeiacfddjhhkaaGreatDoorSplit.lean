/- A region that draws, parted: its head in whatever order, its tail (which waits for all of the head) in its own. -/
import Derived.OrdersHeld
import Derived.StillTail
import Derived.Deep.RegionHeld
namespace Go.Proofs.YteeiacfddjhhkaaGreatDoor
open Go
section
variable {P : Program} {ops : Array Oper} {md : Region.Mode}

/-- No operation of the head has a guard; each waits for operations ahead of it alone. -/
def aheadB (md : Region.Mode) (ops : Array Oper) (n : Nat) : Bool :=
  (List.range n).all fun i => match ops[i]? with
    | some o => o.guard.isNone && o.after.all fun e => !Region.binds md e || decide (e.on < i)
    | none => false
def splitB (md : Region.Mode) (l : List Oper) (n : Nat) : Bool :=
  decide (n < l.length) && Region.sinkB md l.toArray n && Region.chainB md l.toArray n && aheadB md l.toArray n && Region.seqB md l.toArray (l.length - n) n (Array.replicate n true ++ Array.replicate (l.length - n) false)
theorem aheadB_spec {n i : Nat} (h : aheadB md ops n = true) (hi : i < n) : ∃ o, ops[i]? = some o ∧ o.guard = none ∧ ∀ e ∈ o.after, Region.binds md e = true → e.on < i := by
  have h1 := List.all_eq_true.1 h i (List.mem_range.2 hi)
  cases ho : ops[i]? with
  | none => rw [ho] at h1; simp at h1
  | some o =>
    rw [ho] at h1
    simp only [Bool.and_eq_true, Array.all_eq_true_iff_forall_mem, Bool.or_eq_true, Bool.not_eq_true', decide_eq_true_eq] at h1
    refine ⟨o, rfl, by simpa using h1.1, fun e he hb => ?_⟩
    rcases h1.2 e he with h2 | h2
    · rw [hb] at h2; cases h2
    · exact h2
/-- What the head is to bring about. -/
def HeadPost (P : Program) (ops : Array Oper) (Q : Exit → Act → World → Prop) (tail : List Oper) : Exit → Act → World → Prop
  | .normal, a, w => wpList P ops Q tail a w
  | .panic _, _, _ => False
  | e, a, w => Q e a w
theorem head_upon {Q : Exit → Act → World → Prop} {tail : List Oper} {o : Oper} {a : Act} {K K' : Act → World → Prop} (hK : ∀ a w, K a w → K' a w) {r : Result Next}
    (h : o.upon P a K (HeadPost P ops Q tail) r) : o.upon P a K' Q r := by
  cases r with
  | ok n w' =>
    cases n <;> simp only [Oper.upon] at h ⊢
    case value v => exact hK _ _ h
    case skip => exact hK _ _ h
    case defer d => exact hK _ _ h
    case enter f args =>
      refine Calls.mono h fun e w'' he => ?_
      cases e with
      | returned v => exact hK _ _ he
      | panicked c => exact (he : False).elim
      | outgrown => exact he
    case row row args => exact Rows.mono h fun v w'' he => hK _ _ he
  | halt x w' =>
    cases x <;> simp only [Oper.upon] at h ⊢
    case panic v => exact (h : False).elim
theorem wpOp_head {Q : Exit → Act → World → Prop} {tail : List Oper} {head : Array Oper} {i : Nat} {a : Act} {w : World} (hh : head[i]? = ops[i]?) (hg : ∀ o, ops[i]? = some o → o.guard = none) {K K' : Act → World → Prop} (hK : ∀ a w, K a w → K' a w)
    (h : wpOp P head (HeadPost P ops Q tail) i K a w) : wpOp P ops Q i K' a w := by
  unfold wpOp at h ⊢
  rw [hh] at h
  cases ho : ops[i]? with
  | none => rw [ho] at h; exact hK _ _ h
  | some o =>
    rw [ho] at h
    have hgo := hg o ho
    have hw : ∀ x, Region.wanted o x = true := fun x => by simp [Region.wanted, hgo]
    simp only [hw, if_true] at h ⊢
    rcases h with h | ⟨h1, h2⟩
    · exact .inl (head_upon hK h)
    · exact .inr ⟨h1, h2⟩
theorem wpAny_more {Q : Exit → Act → World → Prop} : ∀ (f : Nat) (listed : Array Bool) (a : Act) (w : World), wpAny P md ops Q f listed a w → wpAny P md ops Q (f + 1) listed a w
  | 0, _, _, _, h => ⟨fun _ => h.2, by rw [h.1]; simp⟩
  | f + 1, _, _, _, h => ⟨h.1, fun i hi => wpOp_mono (fun a' w' h' => wpAny_more f _ a' w' h') (h.2 i hi)⟩
theorem wpAny_le {Q : Exit → Act → World → Prop} {f : Nat} (k : Nat) {listed : Array Bool} {a : Act} {w : World} (h : wpAny P md ops Q f listed a w) : wpAny P md ops Q (f + k) listed a w := by
  induction k with
  | zero => exact h
  | succ k ih => exact wpAny_more _ _ _ _ ih
theorem head_all {n : Nat} {head : Array Oper} {lh : Array Bool} (hs : lh.size = n) (hh : ∀ j, j < n → head[j]? = ops[j]?) (hB : aheadB md ops n = true) (hr : Region.ready md head lh = []) : ∀ j, j < n → lh.getD j true = true := by
  intro j
  induction j using Nat.strongRecOn with
  | _ j ih =>
    intro hj
    cases hl : lh.getD j true with
    | true => rfl
    | false =>
      exfalso
      obtain ⟨o, ho, _, hall⟩ := aheadB_spec hB hj
      have hm : j ∈ Region.ready md head lh := mem_ready.2 ⟨hl, o, (hh j hj).trans ho, fun e he hb => by
        have hlt := hall e he hb
        have := ih e.on hlt (by omega)
        simp only [Array.getD_eq_getD_getElem?, Array.getElem?_eq_getElem (show e.on < lh.size by omega), Option.getD_some] at this ⊢
        exact this⟩
      rw [hr] at hm
      cases hm
theorem wpAny_of_split {Q : Exit → Act → World → Prop} {l : List Oper} {n : Nat} (hn : n < l.length) (hs : Region.sinkB md l.toArray n = true) (hc : Region.chainB md l.toArray n = true) (hB : aheadB md l.toArray n = true)
    (hq : Region.seqB md l.toArray (l.length - n) n (Array.replicate n true ++ Array.replicate (l.length - n) false) = true) :
    ∀ (f : Nat) (lh listed : Array Bool) (a : Act) (w : World), HeadInv md l.toArray n listed → lh.size = n → (∀ j, j < n → lh[j]? = listed[j]?) →
      wpAny P md (l.take n).toArray (HeadPost P l.toArray Q (l.drop n)) f lh a w → wpAny P md l.toArray Q (f + (l.length - n)) listed a w := by
  have hh : ∀ j, j < n → (l.take n).toArray[j]? = l.toArray[j]? := fun j hj => by simp [hj]
  have hdone : ∀ (lh listed : Array Bool) (a : Act) (w : World), HeadInv md l.toArray n listed → lh.size = n → (∀ j, j < n → lh[j]? = listed[j]?) → Region.ready md (l.take n).toArray lh = [] → wpList P l.toArray Q (l.drop n) a w → wpAny P md l.toArray Q (l.length - n) listed a w := by
    intro lh listed a w inv hsz hsame hr hw
    have hall := head_all hsz hh hB hr
    have he : listed = Array.replicate n true ++ Array.replicate (l.length - n) false := by
      refine Array.ext (by simp [inv.size]; omega) fun j h1 h2 => ?_
      by_cases hj : j < n
      · rw [Array.getElem_append_left (by simpa using hj)]
        have := hall j hj
        have h3 := hsame j hj
        simp only [Array.getD_eq_getD_getElem?, h3, Array.getElem?_eq_getElem h1, Option.getD_some] at this
        rw [this]; simp
      · rw [Array.getElem_append_right (by simp; omega)]
        have hsz' := inv.size
        have := inv.tail j (by omega) (by rw [← inv.size]; exact h1)
        simp only [Array.getD_eq_getD_getElem?, Array.getElem?_eq_getElem h1, Option.getD_some] at this
        rw [this]; simp
    rw [he]
    have := wpAny_of_seq (md := md) (Q' := Q) (l.drop n) n (Array.replicate n true ++ Array.replicate (l.length - n) false) a w (fun j => by simp [List.getElem?_drop]) (by rw [List.length_drop]; exact hq) hw
    rwa [List.length_drop] at this
  intro f
  induction f with
  | zero =>
    intro lh listed a w inv hsz hsame h
    rw [Nat.zero_add]
    exact hdone lh listed a w inv hsz hsame h.1 h.2
  | succ f ih =>
    intro lh listed a w inv hsz hsame h
    by_cases hr : Region.ready md (l.take n).toArray lh = []
    · have := wpAny_le (f + 1) (hdone lh listed a w inv hsz hsame hr (h.1 hr))
      rwa [Nat.add_comm] at this
    · obtain ⟨i0, hi0⟩ := List.exists_mem_of_ne_nil _ hr
      have hget : ∀ j d, j < n → lh.getD j d = listed.getD j d := fun j d hj => by simp only [Array.getD_eq_getD_getElem?, hsame j hj]
      have hin : ∀ i, i ∈ Region.ready md (l.take n).toArray lh → i < n := fun i hi => by
        obtain ⟨_, o, ho, _⟩ := mem_ready.1 hi
        have := (Array.getElem?_eq_some_iff.1 ho).1
        simp at this
        omega
      have hto : ∀ i, i < n → (i ∈ Region.ready md (l.take n).toArray lh ↔ i ∈ Region.ready md l.toArray listed) := fun i hi => by
        obtain ⟨o, ho, _, hall⟩ := aheadB_spec hB hi
        rw [mem_ready, mem_ready, hh i hi, hget i true hi]
        refine and_congr_right fun _ => ⟨fun ⟨o', ho', h'⟩ => ⟨o', ho', fun e he hb => ?_⟩, fun ⟨o', ho', h'⟩ => ⟨o', ho', fun e he hb => ?_⟩⟩
        · have e1 : o' = o := Option.some.inj (ho'.symm.trans ho)
          subst e1
          rw [← hget e.on false (by have := hall e he hb; omega)]
          exact h' e he hb
        · have e1 : o' = o := Option.some.inj (ho'.symm.trans ho)
          subst e1
          rw [hget e.on false (by have := hall e he hb; omega)]
          exact h' e he hb
      have hi0' := (hto i0 (hin i0 hi0)).1 hi0
      rw [show f + 1 + (l.length - n) = f + (l.length - n) + 1 by omega]
      refine ⟨fun h0 => (by rw [h0] at hi0'; cases hi0'), fun i hi => ?_⟩
      have hilt : i < n := by
        rcases Nat.lt_or_ge i n with h1 | h1
        · exact h1
        · exact absurd hi (tail_waits hs hc (by simpa using hn) inv _ i0 rfl (hin i0 hi0) (mem_ready.1 hi0').1 i h1)
      have hi' := (hto i hilt).2 hi
      refine wpOp_head (hh i hilt) (fun o ho => ?_) (fun a' w' h' => ih (lh.setIfInBounds i true) (listed.setIfInBounds i true) a' w' (inv.set hi hilt) (by simp [hsz]) (fun j hj => ?_) h') (h.2 i hi')
      · obtain ⟨o', ho', hg, _⟩ := aheadB_spec hB hilt
        rw [ho] at ho'
        cases ho'
        exact hg
      · rw [Array.getElem?_setIfInBounds, Array.getElem?_setIfInBounds, hsame j hj, inv.size, hsz]
        have h3 : i < l.length := by omega
        simp [hilt, h3]
theorem wp_region_split {id : Nat} {Q : Exit → Act → World → Prop} {S : World → Prop} {a : Act} {w : World} {l : List Oper} (n : Nat) (hm : P.follows .mixedOrders = true) (hB : splitB .any l n = true) (hS : S w.drew)
    (h : S w.drew → wpAnyH P .any (l.take n).toArray (HeadPost P l.toArray Q (l.drop n)) S n (Array.replicate n false) a w.drew) : (Code.region id l.toArray true).wp P Q a w := by
  simp only [splitB, Bool.and_eq_true, decide_eq_true_eq] at hB
  obtain ⟨⟨⟨⟨hn, hs⟩, hc⟩, hb⟩, hq⟩ := hB
  refine wp_region_any hm ?_
  have inv0 : HeadInv .any l.toArray n (Array.replicate l.toArray.size false) :=
    ⟨by simp, fun j oj _ hl => (by rw [getD_replicate_false] at hl; cases hl), fun t _ ht => getD_in (by simpa using ht) (getD_replicate_false _ _)⟩
  have := wpAny_of_split hn hs hc hb hq n (Array.replicate n false) (Array.replicate l.toArray.size false) a w.drew inv0 (by simp) (fun j hj => by
    have : j < l.length := by omega
    simp [hj, this]) (wpAny_of_held _ _ _ _ (h hS))
  rw [show n + (l.length - n) = l.toArray.size by simp; omega] at this
  exact this
end
end Go.Proofs.YteeiacfddjhhkaaGreatDoor
