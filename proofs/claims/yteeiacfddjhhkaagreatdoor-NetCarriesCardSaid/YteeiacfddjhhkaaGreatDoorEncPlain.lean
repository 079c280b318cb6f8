/- What mayM says of a message's numbers; a message as bytes. -/
import Derived.Test.YteeiacfddjhhkaaGreatDoorMay
import Derived.Test.YteeiacfddjhhkaaGreatDoorWrap
import Derived.Laws.BytesArg
import Derived.Laws.IdiomStrings
namespace Go.Proofs.YteeiacfddjhhkaaGreatDoor
open Go.RowKit
set_option maxRecDepth 100000

theorem run_conv_BS {w : World} {v : Value} {bs : List UInt8} (hr : RB w v bs) : (convert 51 9 v).run Tryz.prog w = .ok (.string ⟨bs.toArray⟩) w := by
  obtain ⟨A, c, rfl, hn, hc, hm, hr⟩ := hr
  cases A with
  | none =>
    have h0 := hn rfl
    obtain rfl : bs = [] := List.eq_nil_of_length_eq_zero (by omega)
    exact run_convert_bytes_nil w 51 5 Tryz.underlying51 Tryz.underlying5 0 c 9 Tryz.underlying9
  | some ad =>
    refine run_convert_bytes_back w 51 9 5 ad c bs Tryz.underlying51 Tryz.underlying5 Tryz.underlying9 fun j hj => ?_
    obtain ⟨ad', hA, hcell⟩ := hr j _ (u8s_get (List.getElem?_eq_getElem hj))
    cases hA
    exact hcell
/-- string(b) of bytes that are read. -/
theorem wp_conv_BS {w : World} {o : Oper} {a : Act} {K : Act → World → Prop} {Q : Exit → Act → World → Prop} (x : Operand) (v : Value) (bs : List UInt8)
    (ho : o.op = .convert 51 9 x) (hx : a.eval x = v) (hr : RB w v bs)
    (h : K (a.put o.dst (.string ⟨bs.toArray⟩)) w) :
    o.wp Tryz.prog a w K Q := by
  unfold Oper.wp execOp
  simp only [ho, hx, run_conv_BS hr, Sem.run_bind, Sem.run_pure, Result.andThen_ok]
  exact h

def numsM (m : PMsg) : List Int := [m.kind, m.from_, m.to_, m.g, m.node, m.try_, m.low, m.code]
def natI (n : Int) : List UInt8 := natB n.toNat
def bodyM (m : PMsg) : List UInt8 := ((numsM m).map natI).flatten ++ (natI m.ticket ++ natB m.told.length) ++ (m.told.map numB).flatten ++ strB (opsB m.ops)
def encM (m : PMsg) : List UInt8 := if mayM m then wrapB (bodyM m) else []

theorem withinB_iff {n lo hi : Int} : withinB n lo hi = true ↔ lo ≤ n ∧ n ≤ hi := by simp [withinB]
structure MayFacts (m : PMsg) : Prop where
  kind : (1 ≤ m.kind ∧ m.kind ≤ 4) ∨ (11 ≤ m.kind ∧ m.kind ≤ 16)
  from_ : 0 ≤ m.from_ ∧ m.from_ ≤ 3
  to_ : 0 ≤ m.to_ ∧ m.to_ ≤ 3
  g : 1 ≤ m.g ∧ m.g ≤ 1048576
  node : 0 ≤ m.node ∧ m.node ≤ 255
  try_ : 0 ≤ m.try_ ∧ m.try_ ≤ 1048576
  low : 0 ≤ m.low ∧ m.low ≤ 1048577
  code : 0 ≤ m.code ∧ m.code ≤ 99
  ticket : 0 ≤ m.ticket
  told : m.told.length ≤ 8
  ops : checkO m.ops = 0
theorem mayM_facts {m : PMsg} (h : mayM m = true) : MayFacts m := by
  unfold mayM at h
  simp only [Bool.and_eq_true, Bool.not_eq_true', decide_eq_false_iff_not, beq_iff_eq, Bool.or_eq_true] at h
  obtain ⟨⟨⟨⟨⟨⟨⟨⟨⟨⟨hk, hw⟩, hg⟩, hn⟩, ht⟩, hl⟩, hc⟩, hti⟩, h8⟩, ho⟩, hb⟩ := h
  rw [withinB_iff] at hg hn ht
  have hk' : (1 ≤ m.kind ∧ m.kind ≤ 4) ∨ (11 ≤ m.kind ∧ m.kind ≤ 16) := by
    unfold knownM at hk
    simp only [Bool.or_eq_true, withinB_iff] at hk
    exact hk
  have hw' : (0 ≤ m.from_ ∧ m.from_ ≤ 3) ∧ 0 ≤ m.to_ ∧ m.to_ ≤ 3 := by
    unfold wayM at hw
    split at hw
    · simp only [Bool.and_eq_true, beq_iff_eq, withinB_iff] at hw; omega
    · simp only [Bool.and_eq_true, beq_iff_eq, withinB_iff] at hw; omega
  have hlow : 0 ≤ m.low ∧ m.low ≤ 1048577 := by
    rcases hl with hl | hl
    · have e : ∀ k : Int, m.kind = k → ¬ k ≤ 4 → (bareM m).low = m.low := by
        intro k hk hk4
        unfold bareM
        split
        · rename_i h; simp at h; omega
        split
        · rename_i h; simp at h; omega
        split
        · rename_i h; simp at h; omega
        split
        · rfl
        split <;> rfl
      have e2 := e m.kind rfl hl
      unfold nothingM at hb
      simp only [Bool.and_eq_true, beq_iff_eq] at hb
      rw [e2] at hb
      omega
    · rw [withinB_iff] at hl; omega
  have hcode : 0 ≤ m.code ∧ m.code ≤ 99 := by
    rcases hc with hc | hc
    · have e : (bareM m).code = m.code := by
        unfold bareM
        split
        · rfl
        split
        · rfl
        split
        · rfl
        split
        · rfl
        split
        · rename_i h; rw [h] at hc; cases hc
        · rfl
      unfold nothingM at hb
      simp only [Bool.and_eq_true, beq_iff_eq] at hb
      rw [e] at hb
      omega
    · rw [withinB_iff] at hc; omega
  exact ⟨hk', hw'.1, hw'.2, hg, hn, ht, hlow, hcode, by omega, by omega, ho⟩
theorem checkO_len {l : List POp} (h : checkO l = 0) : l.length ≤ 8 ∧ ∀ o ∈ l, plainO o = true ∧ keyS o.key.data.toList = true := by
  unfold checkO at h
  split at h
  · cases h
  · split at h
    · rename_i h8 ha
      refine ⟨by omega, fun o ho => ?_⟩
      have := List.all_eq_true.1 ha o ho
      unfold goodO at this
      simpa using this
    · cases h
theorem key_le {o : POp} (h : keyS o.key.data.toList = true) : o.key.size ≤ 16 := by
  unfold keyS at h
  simp only [Bool.and_eq_true, decide_eq_true_eq] at h
  have : o.key.data.toList.length = o.key.size := by simp
  omega
theorem plainO_kind {o : POp} (h : plainO o = true) : 1 ≤ o.kind ∧ o.kind ≤ 6 := by
  unfold plainO at h
  split at h
  · rename_i h1; simp at h1; omega
  split at h
  · rename_i h1; simp at h1; omega
  · simp at h; omega
theorem opsB_len {l : List POp} (h : checkO l = 0) : (opsB l).length ≤ 500 := by
  obtain ⟨h8, hk⟩ := checkO_len h
  have h1 := natB_length l.length
  have h2 := flat_le opB 52 l h8 (fun o ho => by
    have h3 := opB_length o
    have h4 := key_le (hk o ho).2
    omega)
  simp only [opsB, List.length_append]
  omega
theorem bodyM_len {m : PMsg} (h : mayM m = true) : (bodyM m).length ≤ 1000 := by
  have f := mayM_facts h
  have h1 := opsB_len f.ops
  have h2 := natB_length m.told.length
  have h3 := natB_length m.ticket.toNat
  have h4 := flat_le numB 9 m.told f.told (fun n _ => numB_length n)
  have h5 := flat_le natI 9 (numsM m) (k := 8) (by simp [numsM]) (fun n _ => natB_length _)
  have h6 := natB_length (opsB m.ops).length
  simp only [bodyM, strB, natI, List.length_append] at *
  omega
end Go.Proofs.YteeiacfddjhhkaaGreatDoor
