/- crc.Wrap returns the frame wrapB of its one part, if that is not too long. What mayM says of a message's numbers; a message as bytes. bytes.Equal, bytes.Clone, slices.Equal at bytes. crc.Peel, crc.One: the body of a frame. crc.One: the body of just one frame. -/
import Derived.Test.YteeiacfddjhhkaaGreatDoorOpsCheck
import Derived.Test.YteeiacfddjhhkaaGreatDoorMay
import Derived.Laws.BytesArg
import Derived.Laws.IdiomStrings
import Derived.Lib.SliceRun
import Derived.Laws.BitsAllLaws
namespace Go.Proofs.YteeiacfddjhhkaaGreatDoor
open Go.RowKit
set_option maxRecDepth 100000

def headB (n : Nat) : List UInt8 := [167, UInt8.ofNat (n / 256), UInt8.ofNat n]
def tailB (s : Nat) : List UInt8 := [UInt8.ofNat (s / 16777216), UInt8.ofNat (s / 65536), UInt8.ofNat (s / 256), UInt8.ofNat s]
def wrapB (p : List UInt8) : List UInt8 := (headB p.length ++ p) ++ tailB (crcSum (headB p.length ++ p))
theorem crcSum_lt (bs : List UInt8) : crcSum bs < 4294967296 := Nat.xor_lt_two_pow (n := 32) (by omega) (crcAll_lt _ (by omega))
theorem wrapB_length (p : List UInt8) : (wrapB p).length = p.length + 7 := by simp [wrapB, headB, tailB]
theorem u8cell (x : Int) (n : Nat) (h : x = n % 256) : Value.int .u8 x = .int .u8 ((UInt8.ofNat n).toNat : Int) := congrArg (Value.int .u8) (by rw [UInt8.toNat_ofNat']; omega)

theorem RB_mk_wrap {w w' : World} {v : Value} {bs : List UInt8} (ho : OB w' w.heap.size v bs) (hb : Below w.heap.size w w') : RetB w bs (.returned v) w' := RetB.mk rfl ho hb
theorem wrap_one (v : Value) (p : List UInt8) (w : World) (h : RP w v [p]) (hp : p.length ≤ 16384) :
    Calls Tryz.prog 60 #[v] w (RetB w (wrapB p)) := by
  obtain ⟨A, c, rfl⟩ : ∃ A c, v = .slice A 1 c := (by obtain ⟨A, c, vs, hv, _⟩ := h; exact ⟨A, c, hv⟩)
  obtain ⟨ad, B, d, rfl, hcell, hrow, hmx, hrb⟩ := h.at_ (i := 0) (by simp)
  have hRB := Lib.hid hrb
  have hcell0 : w.cell? ad = some (.slice B p.length d) := hcell
  clear h hcell hrow hrb
  simp only [List.getElem_cons_zero] at hRB
  obtain ⟨m, hm⟩ : ∃ m : Nat, m = p.length := ⟨_, rfl⟩
  have hM := Lib.hid hm
  rw [← hm] at hcell0 hp
  clear hm
  have hmk : ∀ W, (Instr.makeSlice 51 (.int .i64 0) (.int .i64 ((m : Int) + 3 + 4))).run Tryz.prog W = .ok (.slice (some ⟨W.heap.size, 0, none⟩) 0 (m + 7)) (W.alloc (.cells (madeCells #[.int .u8 0] (m + 7)) 5)) := by
    intro W
    obtain ⟨i, hi, hz, hsize, hby⟩ := info_parts Tryz.infoU8
    rw [run_make W 51 5 i _ Tryz.underlying51 hi hz .i64 .i64 0 _ (by omega) (by omega) (by rw [hby]; omega) (by omega), hsize, show ((m : Int) + 3 + 4).toNat = m + 7 from by omega, Nat.mul_one]
    rfl
  go_enter Tryz.func60, Tryz.ntmps60
  go_wp2_with fail
  refine wp_loop_rounds 2 ?_
  rw [rounds_succ]
  go_wp2_with fail
  rw [rounds_succ]
  go_wp2_with (at_builtin; refine list_of_wp rfl ?_; refine wp_append_B (.tmp 29) (.tmp 35) rfl w.heap.size (.slice (some ⟨w.heap.size, 0, none⟩) 0 (m + 7)) (.slice (some ⟨w.heap.size + 1, 0, none⟩) 3 3) [] (headB m) (headB m) rfl rfl ?c1 rfl ?c2 ?c3 ?c4 ?_)
  case c1 =>
    refine OB.below (w := w.alloc (.cells (madeCells #[.int .u8 0] (m + 7)) 5)) ?_ ((Below.refl _ _).alloc (Nat.le_refl _) _)
    exact World.ownsRow_made (base := w.heap.size) (e := 5) (size := 1) w (madeCells #[.int .u8 0] (m + 7)) (m + 7) (Nat.le_refl _) (by simp [maxLen]; omega) (by simp [size_madeCells])
  case c2 =>
    refine RB.made (by simp) ?_ rfl (by simp [headB, maxLen])
    simp only [headB, u8s, List.map_cons, List.map_nil]
    rw [u8cell ((m : Int) / 256) (m / 256) (by omega), u8cell ((m : Int) % 256) m rfl]
    rfl
  case c3 => simp [headB]
  case c4 => simp; omega
  intro v1 w1 hO1_ hg1_ _
  have hB1 := Lib.hid (((((Below.refl w.heap.size w).alloc (Nat.le_refl _) (.cells (madeCells #[.int .u8 0] (m + 7)) 5)).alloc (by simp) (.cells #[.int .u8 167, .int .u8 ((m : Int) / 256), .int .u8 ((m : Int) % 256)] 5))).grown hg1_ (by simp; omega) (by intro k hk; simp [Value.ownBlock] at hk; omega))
  have hO1 := Lib.hid hO1_
  clear hO1_ hg1_
  have hcell1 := cell_below hB1.out hcell0
  have hRB1 : Hid (RB w1 (.slice B m d) p) := Lib.hid (by rw [hM.out]; exact hRB.out.below hB1.out)
  clear hcell0 hmk
  obtain ⟨l, hl⟩ : ∃ l, headB m ++ p = l := ⟨_, rfl⟩
  have hL := Lib.hid hl
  clear hl
  go_wp2_with fail
  refine wp_loop_rounds 2 ?_
  rw [rounds_succ]
  go_wp2_with (at_builtin; refine list_of_wp rfl ?_; refine wp_append_B (.tmp 43) (.tmp 44) rfl w.heap.size v1 (.slice B m d) (headB m) p l hL.out rfl hO1.out rfl hRB1.out ?c1 ?c2 ?_)
  case c1 => have h1 := hM.out; simp [headB]; omega
  case c2 => exact hB1.out.size
  intro v2 w2 hO2_ hg2_ _
  have hB2 := Lib.hid (hB1.out.grown hg2_ hB1.out.size (own_ge hO1.out))
  obtain ⟨A2, d2, rfl⟩ := own_slice hO2_
  have hO2 := Lib.hid hO2_
  clear hO2_ hg2_ hcell1
  go_wp2_with fail
  rw [rounds_succ]
  go_wp2_with fail
  refine (sum_any _ [l] _ (RP.made1 (RB.of_own hO2.out))).mono ?_
  rintro e w3 ⟨rfl, rfl⟩
  have hfl : Hid ([l].flatten = l) := Lib.hid (by simp)
  rw [hfl.out]
  have hs := crcSum_lt l
  generalize hcs : crcSum l = s at *
  have hCS := Lib.hid hcs
  clear hcs
  go_wp2_with (at_builtin; refine list_of_wp rfl ?_; refine wp_append_B (.tmp 50) (.tmp 62) rfl w.heap.size (.slice A2 l.length d2) (.slice (some ⟨w2.heap.size + 1, 0, none⟩) 4 4) l (tailB s) (l ++ tailB s) rfl rfl ?c1 rfl ?c2 ?c3 ?c4 ?_)
  case c1 => exact OB.below (OB.below hO2.out ((Below.refl _ _).alloc (Nat.le_refl _) _)) ((Below.refl _ _).alloc (Nat.le_refl _) _)
  case c2 =>
    refine RB.made (by simp) ?_ rfl (by simp [tailB, maxLen])
    simp only [tailB, u8s, List.map_cons, List.map_nil]
    rw [u8cell ((s : Int) / 16777216) (s / 16777216) (by omega), u8cell ((s : Int) / 65536 % 256) (s / 65536) (by omega), u8cell ((s : Int) / 256 % 256) (s / 256) (by omega), u8cell ((s : Int) % 256) s rfl]
  case c3 => have h1 := hM.out; have h2 := hL.out; rw [← h2]; simp [tailB, headB]; omega
  case c4 => have := hB2.out.size; simp; omega
  intro v4 w4 hO4_ hg4_ _
  have hBx := (hB2.out.alloc hB2.out.size (.cells #[.slice A2 l.length d2] 51)).alloc (by have := hB2.out.size; simp; omega) (.cells #[.int .u8 ((s : Int) / 16777216), .int .u8 ((s : Int) / 65536 % 256), .int .u8 ((s : Int) / 256 % 256), .int .u8 ((s : Int) % 256)] 5)
  have hB4 := Lib.hid (hBx.grown hg4_ hBx.size (own_ge hO2.out))
  have hO4 := Lib.hid hO4_
  clear hO4_ hg4_ hBx
  go_wp2_with fail
  go_ret
  have hO5 : OB w4 w.heap.size v4 (wrapB p) := by
    have e : wrapB p = l ++ tailB s := by rw [wrapB, ← hM.out, hL.out, hCS.out]
    rw [e]
    exact hO4.out
  exact RB_mk_wrap hO5 hB4.out
end Go.Proofs.YteeiacfddjhhkaaGreatDoor
namespace Go.Proofs.YteeiacfddjhhkaaGreatDoor
open Go.RowKit
set_option maxRecDepth 100000

theorem run_conv_BS {w : World} {v : Value} {bs : List UInt8} (hr : RB w v bs) : (convert 51 9 v).run Tryz.prog w = .ok (.string ⟨bs.toArray⟩) w := by
  obtain ⟨A, c, rfl, hn, hc, hm, hr⟩ := hr
  cases A with
  | none =>
    have h0 := hn rfl
    obtain rfl : bs = [] := List.eq_nil_of_length_eq_zero (by omega)
    exact run_convert_bytes_nil w 51 5 Tryz.underlying51 Tryz.underlying5 0 c 9 Tryz.underlying9
  | some ad =>
    refine run_convert_bytes_back w 51 9 5 ad c bs Tryz.underlying51 Tryz.underlying5 Tryz.underlying9 fun j hj => ?_
    obtain ⟨ad', hA, hcell⟩ := hr j _ (u8s_get (List.getElem?_eq_getElem hj))
    cases hA
    exact hcell
/-- string(b) of bytes that are read. -/
theorem wp_conv_BS {w : World} {o : Oper} {a : Act} {K : Act → World → Prop} {Q : Exit → Act → World → Prop} (x : Operand) (v : Value) (bs : List UInt8)
    (ho : o.op = .convert 51 9 x) (hx : a.eval x = v) (hr : RB w v bs)
    (h : K (a.put o.dst (.string ⟨bs.toArray⟩)) w) :
    o.wp Tryz.prog a w K Q := by
  unfold Oper.wp execOp
  simp only [ho, hx, run_conv_BS hr, Sem.run_bind, Sem.run_pure, Result.andThen_ok]
  exact h

def numsM (m : PMsg) : List Int := [m.kind, m.from_, m.to_, m.g, m.node, m.try_, m.low, m.code]
def natI (n : Int) : List UInt8 := natB n.toNat
def bodyM (m : PMsg) : List UInt8 := ((numsM m).map natI).flatten ++ (natI m.ticket ++ natB m.told.length) ++ (m.told.map numB).flatten ++ strB (opsB m.ops)
def encM (m : PMsg) : List UInt8 := if mayM m then wrapB (bodyM m) else []

theorem withinB_iff {n lo hi : Int} : withinB n lo hi = true ↔ lo ≤ n ∧ n ≤ hi := by simp [withinB]
structure MayFacts (m : PMsg) : Prop where
  kind : (1 ≤ m.kind ∧ m.kind ≤ 4) ∨ (11 ≤ m.kind ∧ m.kind ≤ 16)
  from_ : 0 ≤ m.from_ ∧ m.from_ ≤ 3
  to_ : 0 ≤ m.to_ ∧ m.to_ ≤ 3
  g : 1 ≤ m.g ∧ m.g ≤ 1048576
  node : 0 ≤ m.node ∧ m.node ≤ 255
  try_ : 0 ≤ m.try_ ∧ m.try_ ≤ 1048576
  low : 0 ≤ m.low ∧ m.low ≤ 1048577
  code : 0 ≤ m.code ∧ m.code ≤ 99
  ticket : 0 ≤ m.ticket
  told : m.told.length ≤ 8
  ops : checkO m.ops = 0
theorem mayM_facts {m : PMsg} (h : mayM m = true) : MayFacts m := by
  unfold mayM at h
  simp only [Bool.and_eq_true, Bool.not_eq_true', decide_eq_false_iff_not, beq_iff_eq, Bool.or_eq_true] at h
  obtain ⟨⟨⟨⟨⟨⟨⟨⟨⟨⟨hk, hw⟩, hg⟩, hn⟩, ht⟩, hl⟩, hc⟩, hti⟩, h8⟩, ho⟩, hb⟩ := h
  rw [withinB_iff] at hg hn ht
  have hk' : (1 ≤ m.kind ∧ m.kind ≤ 4) ∨ (11 ≤ m.kind ∧ m.kind ≤ 16) := by
    unfold knownM at hk
    simp only [Bool.or_eq_true, withinB_iff] at hk
    exact hk
  have hw' : (0 ≤ m.from_ ∧ m.from_ ≤ 3) ∧ 0 ≤ m.to_ ∧ m.to_ ≤ 3 := by
    unfold wayM at hw
    split at hw
    · simp only [Bool.and_eq_true, beq_iff_eq, withinB_iff] at hw; omega
    · simp only [Bool.and_eq_true, beq_iff_eq, withinB_iff] at hw; omega
  have hlow : 0 ≤ m.low ∧ m.low ≤ 1048577 := by
    rcases hl with hl | hl
    · have e : ∀ k : Int, m.kind = k → ¬ k ≤ 4 → (bareM m).low = m.low := by
        intro k hk hk4
        unfold bareM
        split
        · rename_i h; simp at h; omega
        split
        · rename_i h; simp at h; omega
        split
        · rename_i h; simp at h; omega
        split
        · rfl
        split <;> rfl
      have e2 := e m.kind rfl hl
      unfold nothingM at hb
      simp only [Bool.and_eq_true, beq_iff_eq] at hb
      rw [e2] at hb
      omega
    · rw [withinB_iff] at hl; omega
  have hcode : 0 ≤ m.code ∧ m.code ≤ 99 := by
    rcases hc with hc | hc
    · have e : (bareM m).code = m.code := by
        unfold bareM
        split
        · rfl
        split
        · rfl
        split
        · rfl
        split
        · rfl
        split
        · rename_i h; rw [h] at hc; cases hc
        · rfl
      unfold nothingM at hb
      simp only [Bool.and_eq_true, beq_iff_eq] at hb
      rw [e] at hb
      omega
    · rw [withinB_iff] at hc; omega
  exact ⟨hk', hw'.1, hw'.2, hg, hn, ht, hlow, hcode, by omega, by omega, ho⟩
theorem checkO_len {l : List POp} (h : checkO l = 0) : l.length ≤ 8 ∧ ∀ o ∈ l, plainO o = true ∧ keyS o.key.data.toList = true := by
  unfold checkO at h
  split at h
  · cases h
  · split at h
    · rename_i h8 ha
      refine ⟨by omega, fun o ho => ?_⟩
      have := List.all_eq_true.1 ha o ho
      unfold goodO at this
      simpa using this
    · cases h
theorem key_le {o : POp} (h : keyS o.key.data.toList = true) : o.key.size ≤ 16 := by
  unfold keyS at h
  simp only [Bool.and_eq_true, decide_eq_true_eq] at h
  have : o.key.data.toList.length = o.key.size := by simp
  omega
theorem plainO_kind {o : POp} (h : plainO o = true) : 1 ≤ o.kind ∧ o.kind ≤ 6 := by
  unfold plainO at h
  split at h
  · rename_i h1; simp at h1; omega
  split at h
  · rename_i h1; simp at h1; omega
  · simp at h; omega
theorem opsB_len {l : List POp} (h : checkO l = 0) : (opsB l).length ≤ 500 := by
  obtain ⟨h8, hk⟩ := checkO_len h
  have h1 := natB_length l.length
  have h2 := flat_le opB 52 l h8 (fun o ho => by
    have h3 := opB_length o
    have h4 := key_le (hk o ho).2
    omega)
  simp only [opsB, List.length_append]
  omega
theorem bodyM_len {m : PMsg} (h : mayM m = true) : (bodyM m).length ≤ 1000 := by
  have f := mayM_facts h
  have h1 := opsB_len f.ops
  have h2 := natB_length m.told.length
  have h3 := natB_length m.ticket.toNat
  have h4 := flat_le numB 9 m.told f.told (fun n _ => numB_length n)
  have h5 := flat_le natI 9 (numsM m) (k := 8) (by simp [numsM]) (fun n _ => natB_length _)
  have h6 := natB_length (opsB m.ops).length
  simp only [bodyM, strB, natI, List.length_append] at *
  omega
end Go.Proofs.YteeiacfddjhhkaaGreatDoor
namespace Go.Proofs.YteeiacfddjhhkaaGreatDoor
open Go.RowKit
set_option maxRecDepth 100000

theorem str_inj {a b : List UInt8} : ((⟨a.toArray⟩ : ByteArray) = ⟨b.toArray⟩) ↔ a = b := by simp
theorem bytesEq_any (v1 v2 : Value) (a b : List UInt8) (w : World) (h1 : RB w v1 a) (h2 : RB w v2 b) :
    Calls Tryz.prog 90 #[v1, v2] w fun e w' => e = .returned (.bool (decide (a = b))) ∧ w' = w := by
  obtain ⟨A1, c1, hv1, _⟩ := id h1
  obtain ⟨A2, c2, hv2, _⟩ := id h2
  have hR1 := Lib.hid h1
  have hR2 := Lib.hid h2
  clear h1 h2
  subst hv1 hv2
  go_enter Tryz.func90, Tryz.ntmps90
  have g1 := run_conv_BS hR1.out
  have g2 := run_conv_BS hR2.out
  go_wp2_with fail
  go_ret
  exact ⟨congrArg (fun x => Ending.returned (.bool x)) (by rw [Bool.eq_iff_iff]; simp), rfl⟩
theorem clone_any (v : Value) (bs : List UInt8) (w : World) (h : RB w v bs) (hl : bs.length ≤ 1000000) :
    Calls Tryz.prog 46 #[v] w (RetB w bs) := by
  obtain ⟨A, c, hv, hn, hc, hm, hr⟩ := id h
  have hR := Lib.hid h
  clear h
  subst hv
  have q22 : ∀ (w : World), (binOp .eql 51 (.slice A bs.length c) (.slice none 0 0)).run Tryz.prog w = .ok (.bool A.isNone) w := fun w => Lib.run_eql_slice_nil w _ 5 A _ c 0 0 Tryz.underlying51
  cases A with
  | none =>
    obtain rfl : bs = [] := List.eq_nil_of_length_eq_zero (by have := hn rfl; omega)
    go_enter Tryz.func46, Tryz.ntmps46
    have hc0 : c = 0 := hn rfl
    subst hc0
    have q23 := fun w => q22 w
    simp only [List.length_nil, Option.isNone_none] at q23
    clear q22
    go_wp2_with fail
    go_ret
    exact RetB.mk rfl (v := .slice none 0 0) (OB.nil _ _) (Below.refl _ _)
  | some ad =>
    clear hn hr
    simp only [Option.isNone_some] at q22
    go_enter Tryz.func46, Tryz.ntmps46
    go_wp2_with (at_builtin; refine list_of_wp rfl ?_; refine wp_append_B (.tmp 5) (.tmp 6) rfl w.heap.size (.slice (some ⟨w.heap.size, 0, none⟩) 0 0) (.slice (some ad) bs.length c) [] bs bs rfl rfl ?c1 rfl ?c2 ?c3 ?c4 ?_)
    case c1 =>
      have := World.ownsRow_made (base := w.heap.size) (e := 5) (size := 1) w #[] 0 (by simp) (by simp) (by simp)
      exact this
    case c2 => exact hR.out.below (below_alloc (Below.refl _ _) _)
    case c3 => simp; omega
    case c4 => simp
    intro v' w1 hO_ hg_ _
    have hO := Lib.hid hO_
    have hB := Lib.hid ((below_alloc (Below.refl _ w) (.cells #[] 5)).grown hg_ (by simp) (by intro q hq; simp [Value.ownBlock] at hq; omega))
    clear hO_ hg_
    go_wp2_with fail
    go_ret
    exact RetB.mk rfl (v := v') hO.out hB.out
theorem slicesEq_any (v1 v2 : Value) (a b : List UInt8) (w : World) (h1 : RB w v1 a) (h2 : RB w v2 b) (hal : a.length ≤ 1000000) (hbl : b.length ≤ 1000000) :
    Calls Tryz.prog 45 #[v1, v2] w fun e w' => e = .returned (.bool (decide (a = b))) ∧ Below w.heap.size w w' := by
  obtain ⟨A1, c1, hv1, _, _, hm1, _⟩ := id h1
  obtain ⟨A2, c2, hv2, _, _, hm2, _⟩ := id h2
  have hR1 := Lib.hid h1
  have hR2 := Lib.hid h2
  clear h1 h2 hm1 hm2
  subst hv1 hv2
  by_cases hlen : (a.length : Int) = b.length
  · have hll : a.length = b.length := by omega
    go_enter Tryz.func45, Tryz.ntmps45
    go_wp2_with fail
    go_loopw [5, 13] (fun _ i wr => ∃ k : Nat, k ≤ a.length ∧ i = .int .i64 k ∧ Hid (a.take k = b.take k) ∧ Below w.heap.size w wr) (fun _ i _ => a.length - (intOf i).toNat)
    case atStart => exact ⟨0, by omega, rfl, Lib.hid rfl, Below.refl _ _⟩
    case round =>
      obtain ⟨k, hk, rfl, hT, hB_⟩ := hrel
      have hB := Lib.hid hB_
      by_cases hlt : k < a.length
      · have hlt2 : k < b.length := by omega
        obtain ⟨ad1, rfl, hc1⟩ := (hR1.out.below hB_).at_ hlt
        obtain ⟨ad2, rfl, hc2⟩ := (hR2.out.below hB_).at_ hlt2
        clear hB_
        by_cases he : a[k] = b[k]
        · have hT2 : Hid (a.take (k + 1) = b.take (k + 1)) := Lib.hid (by rw [List.take_succ_eq_append_getElem hlt, List.take_succ_eq_append_getElem hlt2, hT.out, he])
          have hne : ((a[k].toNat : Int) != b[k].toNat) = false := by simp [he]
          generalize a[k].toNat = x at *
          generalize b[k].toNat = y at *
          clear he
          go_wp2_with fail
          go_quiet (fail)
          go_wp2_with fail
          go_roundw
          case rel => exact ⟨k + 1, by omega, by go_num, hT2, below_drewN hB.out _⟩
          case measure => simp [intOf]; omega
        · have hab : Hid (decide (a = b) = false) := Lib.hid (by simp; intro h; subst h; exact he rfl)
          have hne : ((a[k].toNat : Int) != b[k].toNat) = true := by simp; intro h; exact he (UInt8.toNat_inj.1 (by omega))
          generalize a[k].toNat = x at *
          generalize b[k].toNat = y at *
          clear he
          go_wp2_with fail
          go_quiet (fail)
          go_wp2_with fail
          go_ret
          exact ⟨by rw [hab.out]; rfl, below_drewN hB.out _⟩
      · have hab : Hid (decide (a = b) = true) := Lib.hid (by
          have h := hT.out
          rw [List.take_of_length_le (by omega), List.take_of_length_le (by omega)] at h
          simp [h])
        clear hB_ hT
        go_wp2_with fail
        go_ret
        exact ⟨by rw [hab.out]; rfl, hB.out⟩
  · have hab : Hid (decide (a = b) = false) := Lib.hid (by simp; intro h; subst h; exact hlen rfl)
    go_enter Tryz.func45, Tryz.ntmps45
    go_wp2_with fail
    go_ret
    exact ⟨by rw [hab.out]; rfl, Below.refl _ _⟩
end Go.Proofs.YteeiacfddjhhkaaGreatDoor
namespace Go.Proofs.YteeiacfddjhhkaaGreatDoor
open Go.RowKit
set_option maxRecDepth 100000

theorem i64_or_small (a b : Nat) (ha : a < 65536) (hb : b < 65536) : bits .or .i64 (a : Int) (b : Int) = ((a ||| b : Nat) : Int) := by
  have hx : a ||| b < 2 ^ 16 := Nat.or_lt_two_pow (by omega) (by omega)
  show IntKind.i64.wrap ((BitVec.ofInt 64 (a : Int) ||| BitVec.ofInt 64 (b : Int)).toNat : Int) = _
  rw [BitVec.toNat_or, ofInt_u64 a (by omega), ofInt_u64 b (by omega), IntKind.wrap_i64]
  omega
theorem or_256 (x c : Nat) (hc : c < 256) : x * 256 ||| c = x * 256 + c := by
  have h := Nat.two_pow_add_eq_or_of_lt (i := 8) (b := c) (by omega) x
  rw [Nat.mul_comm x 256]
  exact h.symm
/-- What is there ahead, a frame and its body. -/
def frameAt (bs p rest : List UInt8) : Prop := p.length ≤ 16384 ∧ bs = wrapB p ++ rest
/-- What Peel finds. -/
def PeelRet (w : World) (bs : List UInt8) (e : Ending) (w' : World) : Prop :=
  (∃ p rest A c, frameAt bs p rest ∧ e = .returned (.tuple #[.slice A p.length c, .int .i64 ((p.length : Int) + 7)]) ∧ OB w' w.heap.size (.slice A p.length c) p ∧ Below w.heap.size w w') ∨
  ((∀ p rest, ¬ frameAt bs p rest) ∧ e = .returned (.tuple #[.slice none 0 0, .int .i64 0]) ∧ Below w.heap.size w w')
theorem frame_len {bs p rest : List UInt8} (h : frameAt bs p rest) : bs.length = p.length + 7 + rest.length := by
  rw [h.2, List.length_append, wrapB_length]
theorem frame_0 {bs p rest : List UInt8} (h : frameAt bs p rest) : bs[0]? = some 167 := by rw [h.2]; simp [wrapB, headB]
theorem frame_12 {bs p rest : List UInt8} {x y : UInt8} (h : frameAt bs p rest) (hx : bs[1]? = some x) (hy : bs[2]? = some y) : x.toNat * 256 + y.toNat = p.length := by
  have h1 := h.1
  rw [h.2] at hx hy
  simp [wrapB, headB] at hx hy
  rw [← hx, ← hy, UInt8.toNat_ofNat', UInt8.toNat_ofNat']
  omega
theorem RB.sub {w : World} {ad ad' : Addr} {c c' m' : Nat} {bs rs : List UInt8} (h : RB w (.slice (some ad) bs.length c) bs) (lo m : Nat) (hm : lo + m ≤ bs.length) (e1 : m' = m) (e2 : c' = c - lo) (e3 : ad' = ad.add lo) (e4 : (bs.drop lo).take m = rs) : RB w (.slice (some ad') m' c') rs := by
  obtain ⟨A', cc, he, _, hc, hmx, hrow⟩ := h
  cases he
  subst e1 e2 e3 e4
  have hlen : ((bs.drop lo).take m').length = m' := by rw [List.length_take, List.length_drop]; omega
  refine ⟨_, _, by rw [hlen], fun h => (by cases h), by omega, by omega, ?_⟩
  have h3 := (hrow.drop lo).take m'
  rw [u8s, ← List.map_drop, ← List.map_take] at h3
  exact h3
theorem bs_three {bs : List UInt8} {b0 b1 b2 : UInt8} (h0 : bs[0]? = some b0) (h1 : bs[1]? = some b1) (h2 : bs[2]? = some b2) : ∃ t, bs = b0 :: b1 :: b2 :: t := by
  match bs, h0, h1, h2 with
  | x :: y :: z :: t, h0, h1, h2 =>
    simp at h0 h1 h2
    exact ⟨t, by rw [h0, h1, h2]⟩
  | [], h0, _, _ => simp at h0
  | [x], _, h1, _ => simp at h1
  | [x, y], _, _, h2 => simp at h2
theorem head_take {bs : List UInt8} {b1 b2 : UInt8} {n : Nat} (h0 : bs[0]? = some 167) (h1 : bs[1]? = some b1) (h2 : bs[2]? = some b2) (hn : b1.toNat * 256 + b2.toNat = n) : bs.take (n + 3) = headB n ++ (bs.drop 3).take n := by
  obtain ⟨t, rfl⟩ := bs_three h0 h1 h2
  have l1 := b1.toNat_lt
  have l2 := b2.toNat_lt
  have g1 : UInt8.ofNat (n / 256) = b1 := UInt8.toNat_inj.1 (by rw [UInt8.toNat_ofNat']; omega)
  have g2 : UInt8.ofNat n = b2 := UInt8.toNat_inj.1 (by rw [UInt8.toNat_ofNat']; omega)
  simp [headB, g1, g2]
theorem peel_yes {bs : List UInt8} {b1 b2 : UInt8} {n : Nat} (h0 : bs[0]? = some 167) (h1 : bs[1]? = some b1) (h2 : bs[2]? = some b2) (hn : b1.toNat * 256 + b2.toNat = n) (hm : n ≤ 16384) (hl : n + 7 ≤ bs.length)
    (he : (bs.drop (n + 3)).take 4 = tailB (crcSum (bs.take (n + 3)))) : frameAt bs ((bs.drop 3).take n) (bs.drop (n + 7)) ∧ ((bs.drop 3).take n).length = n := by
  have hlen : ((bs.drop 3).take n).length = n := by rw [List.length_take, List.length_drop]; omega
  refine ⟨⟨by omega, ?_⟩, hlen⟩
  unfold wrapB
  rw [hlen, ← head_take h0 h1 h2 hn, ← he, show bs.drop (n + 7) = (bs.drop (n + 3)).drop 4 by rw [List.drop_drop], List.append_assoc, List.take_append_drop, List.take_append_drop]
theorem peel_no {bs : List UInt8} {n : Nat} (hp : ∀ p rest, frameAt bs p rest → p.length = n) (he : (bs.drop (n + 3)).take 4 ≠ tailB (crcSum (bs.take (n + 3)))) : ∀ p rest, ¬ frameAt bs p rest := by
  intro p rest hf
  have hn := hp p rest hf
  have h3 : (headB p.length ++ p).length = n + 3 := by simp [headB, hn]
  obtain ⟨_, hb⟩ := hf
  unfold wrapB at hb
  apply he
  rw [hb, List.append_assoc, List.drop_left' h3, List.take_left' h3, List.take_left' (by simp [tailB])]
theorem peel_any (v : Value) (bs : List UInt8) (w : World) (h : RB w v bs) (hl : bs.length ≤ 100000) :
    Calls Tryz.prog 65 #[v] w (PeelRet w bs) := by
  obtain ⟨A, c, hv, hnil, hc, hmx, hrow⟩ := id h
  have hR := Lib.hid h
  clear h
  subst hv
  by_cases h7 : (bs.length : Int) < 7
  · have hd : decide ((bs.length : Int) < 7) = true := by simpa using h7
    have hno : Hid (∀ p rest, ¬ frameAt bs p rest) := Lib.hid (fun p rest hf => by have := frame_len hf; omega)
    go_enter Tryz.func65, Tryz.ntmps65
    go_wp2_with fail
    refine bodyPost_ret (v := .tuple #[.slice none 0 0, .int .i64 0]) ?_ rfl (.inr ⟨hno.out, rfl, Below.refl _ _⟩)
    simp [results, Tryz.results65, go_sem]
  have hd : decide ((bs.length : Int) < 7) = false := by simpa using h7
  obtain ⟨ad, rfl, hc0⟩ := hR.out.at_ (i := 0) (by omega)
  obtain ⟨ad', h', hc1⟩ := hR.out.at_ (i := 1) (by omega)
  cases h'
  obtain ⟨ad', h', hc2⟩ := hR.out.at_ (i := 2) (by omega)
  cases h'
  rw [show ad.add 0 = ad from rfl] at hc0
  obtain ⟨b0, hb0⟩ : ∃ b, bs[0]'(by omega) = b := ⟨_, rfl⟩
  obtain ⟨b1, hb1⟩ : ∃ b, bs[1]'(by omega) = b := ⟨_, rfl⟩
  obtain ⟨b2, hb2⟩ : ∃ b, bs[2]'(by omega) = b := ⟨_, rfl⟩
  have e0 : Hid (bs[0]? = some b0) := Lib.hid (by rw [List.getElem?_eq_getElem (by omega), hb0])
  have e1 : Hid (bs[1]? = some b1) := Lib.hid (by rw [List.getElem?_eq_getElem (by omega), hb1])
  have e2 : Hid (bs[2]? = some b2) := Lib.hid (by rw [List.getElem?_eq_getElem (by omega), hb2])
  rw [hb0] at hc0
  rw [hb1] at hc1
  rw [hb2] at hc2
  clear hb0 hb1 hb2 hnil hrow
  have i0 : (0 : Int) < bs.length := by omega
  have i1 : (1 : Int) < bs.length := by omega
  have i2 : (2 : Int) < bs.length := by omega
  have hc1' : w.cell? ⟨ad.block, ad.off + 1, none⟩ = some (.int .u8 (b1.toNat : Int)) := hc1
  have hc2' : w.cell? ⟨ad.block, ad.off + 2, none⟩ = some (.int .u8 (b2.toNat : Int)) := hc2
  by_cases h167 : (b0.toNat : Int) = 167
  case neg =>
    have hne : ((b0.toNat : Int) != 167) = true := by simpa using h167
    have hno : Hid (∀ p rest, ¬ frameAt bs p rest) := Lib.hid (fun p rest hf => by
      have := frame_0 hf
      rw [e0.out] at this
      simp at this
      subst this
      exact h167 rfl)
    go_enter Tryz.func65, Tryz.ntmps65
    go_wp2_with fail
    refine bodyPost_ret (v := .tuple #[.slice none 0 0, .int .i64 0]) ?_ rfl (.inr ⟨hno.out, rfl, Below.refl _ _⟩)
    simp [results, Tryz.results65, go_sem]
  have hne : ((b0.toNat : Int) != 167) = false := by simpa using h167
  have e00 : Hid (bs[0]? = some 167) := Lib.hid (by rw [e0.out]; congr 1; exact UInt8.toNat_inj.1 (by show b0.toNat = 167; omega))
  have l1 := b1.toNat_lt
  have l2 := b2.toNat_lt
  obtain ⟨n, hn⟩ : ∃ n, b1.toNat * 256 + b2.toNat = n := ⟨_, rfl⟩
  have hor : bits .or .i64 ((b1.toNat : Int) * 256) (b2.toNat : Int) = (n : Int) := by
    rw [show (b1.toNat : Int) * 256 = ((b1.toNat * 256 : Nat) : Int) by omega, i64_or_small _ _ (by omega) (by omega), or_256 _ _ (by omega), hn]
  have hw1 : IntKind.i64.wrap ((b1.toNat : Int) * 256) = (b1.toNat : Int) * 256 := by rw [IntKind.wrap_i64]; omega
  have hp : Hid (∀ p rest, frameAt bs p rest → p.length = n) := Lib.hid (fun p rest hf => by rw [← frame_12 hf e1.out e2.out, hn])
  go_enter Tryz.func65, Tryz.ntmps65
  go_wp2_with fail
  go_quiet (fail)
  by_cases hbig : (16384 : Int) < n
  · have hd1 : decide ((16384 : Int) < n) = true := by simpa using hbig
    have hno : Hid (∀ p rest, ¬ frameAt bs p rest) := Lib.hid (fun p rest hf => by have := hp.out p rest hf; have := hf.1; omega)
    go_wp2_with fail
    refine bodyPost_ret (v := .tuple #[.slice none 0 0, .int .i64 0]) ?_ rfl (.inr ⟨hno.out, rfl, below_drewN (Below.refl _ _) _⟩)
    simp [results, Tryz.results65, go_sem]
  have hd1 : decide ((16384 : Int) < n) = false := by simpa using hbig
  by_cases hfit : (bs.length : Int) - 3 - 4 < n
  · have hd2 : decide ((bs.length : Int) - 3 - 4 < n) = true := by simpa using hfit
    have hno : Hid (∀ p rest, ¬ frameAt bs p rest) := Lib.hid (fun p rest hf => by have := hp.out p rest hf; have := frame_len hf; omega)
    go_wp2_with fail
    refine bodyPost_ret (v := .tuple #[.slice none 0 0, .int .i64 0]) ?_ rfl (.inr ⟨hno.out, rfl, below_drewN (Below.refl _ _) _⟩)
    simp [results, Tryz.results65, go_sem]
  have hd2 : decide ((bs.length : Int) - 3 - 4 < n) = false := by simpa using hfit
  go_wp2_with fail
  obtain ⟨fr, hfr⟩ : ∃ l, bs.take (n + 3) = l := ⟨_, rfl⟩
  have hFR := Lib.hid hfr
  have hRS : RP ((w.drewN nq).alloc (.cells #[.slice (some ad) (3 + n) c] 51)) (.slice (some ⟨w.heap.size, 0, none⟩) 1 1) [fr] := RP.made1 (w := w.drewN nq) ((hR.out.below (below_drewN (Below.refl _ _) nq)).sub 0 (n + 3) (by omega) (by omega) (by omega) rfl (by rw [List.drop_zero, hfr]))
  refine (sum_any _ [fr] _ hRS).mono ?_
  rintro e w1 ⟨rfl, rfl⟩
  rw [show [fr].flatten = fr by simp]
  obtain ⟨s, hs⟩ : ∃ s, crcSum fr = s := ⟨_, rfl⟩
  have hsl := crcSum_lt fr
  rw [hs] at hsl ⊢
  have hS := Lib.hid hs
  have hBA : Below w.heap.size w ((w.drewN nq).alloc (.cells #[.slice (some ad) (3 + n) c] 51)) := (below_drewN (Below.refl _ w) nq).alloc (Nat.le_refl _) _
  have hsz : ((w.drewN nq).alloc (.cells #[.slice (some ad) (3 + n) c] 51)).heap.size = w.heap.size + 1 := World.size_alloc _ _
  clear hRS hs hfr
  generalize (w.drewN nq).alloc (.cells #[.slice (some ad) (3 + n) c] 51) = W at *
  have hBW := Lib.hid hBA
  clear hBA
  go_wp2_with fail
  have hBW2 := Lib.hid (below_alloc hBW.out (.cells #[.int .u8 ((s : Int) / 16777216), .int .u8 ((s : Int) / 65536 % 256), .int .u8 ((s : Int) / 256 % 256), .int .u8 ((s : Int) % 256)] 5))
  refine (bytesEq_any _ _ ((bs.drop (n + 3)).take 4) (tailB s) _ ((hR.out.below hBW2.out).sub (n + 3) 4 (by omega) rfl (by omega) (by rw [Nat.add_comm]) rfl) (RB.made (by omega) (by
    simp only [tailB, u8s, List.map_cons, List.map_nil]
    rw [u8cell ((s : Int) / 16777216) (s / 16777216) (by omega), u8cell ((s : Int) / 65536 % 256) (s / 65536) (by omega), u8cell ((s : Int) / 256 % 256) (s / 256) (by omega), u8cell ((s : Int) % 256) s (by omega)]) rfl (by simp [tailB, maxLen]))).mono ?_
  rintro e w2 ⟨rfl, rfl⟩
  generalize W.alloc (.cells #[.int .u8 ((s : Int) / 16777216), .int .u8 ((s : Int) / 65536 % 256), .int .u8 ((s : Int) / 256 % 256), .int .u8 ((s : Int) % 256)] 5) = W2 at *
  by_cases heq : (bs.drop (n + 3)).take 4 = tailB s
  · have hy := Lib.hid (peel_yes (n := n) e00.out e1.out e2.out hn (by omega) (by omega) (by rw [hFR.out, hS.out]; exact heq))
    rw [show decide ((bs.drop (n + 3)).take 4 = tailB s) = true by simpa using heq]
    clear heq
    go_wp2_with fail
    obtain ⟨p, hpe⟩ : ∃ p, (bs.drop 3).take n = p := ⟨_, rfl⟩
    have hRp := (hR.out.below hBW2.out).sub 3 n (by omega) rfl rfl rfl hpe
    rw [hpe] at hy
    have hpl := Lib.hid hy.out.2
    have hfin : (3 : Int) + n + 4 = (p.length : Int) + 7 := by rw [hpl.out]; omega
    have hFin := Lib.hid hfin
    clear hpe hfin
    refine (clone_any _ p _ hRp (by rw [hpl.out]; omega)).mono ?_
    rintro e w5 ⟨A5, c5, rfl, hO5_, hB5_⟩
    have hO5 := Lib.hid hO5_
    have hB5 := Lib.hid (bnext hBW2.out hB5_)
    have hO5b := Lib.hid (hO5_.lower hBW2.out.size)
    clear hO5_ hB5_ hRp
    go_wp2_with fail
    refine bodyPost_ret (v := .tuple #[.slice A5 p.length c5, .int .i64 ((p.length : Int) + 7)]) ?_ rfl (.inl ⟨p, _, A5, c5, hy.out.1, rfl, hO5b.out, hB5.out⟩)
    rw [← hFin.out]
    simp [results, Tryz.results65, go_sem]
  · have hno := Lib.hid (peel_no (n := n) hp.out (by rw [hFR.out, hS.out]; exact heq))
    rw [show decide ((bs.drop (n + 3)).take 4 = tailB s) = false by simpa using heq]
    clear heq
    go_wp2_with fail
    refine bodyPost_ret (v := .tuple #[.slice none 0 0, .int .i64 0]) ?_ rfl (.inr ⟨hno.out, rfl, hBW2.out⟩)
    simp [results, Tryz.results65, go_sem]
end Go.Proofs.YteeiacfddjhhkaaGreatDoor
namespace Go.Proofs.YteeiacfddjhhkaaGreatDoor
open Go.RowKit
set_option maxRecDepth 100000

theorem frame_same {bs p p' rest rest' : List UInt8} (h : frameAt bs p rest) (h' : frameAt bs p' rest') : p.length = p'.length := by
  have hl := frame_len h
  have g1 := List.getElem?_eq_getElem (l := bs) (i := 1) (by omega)
  have g2 := List.getElem?_eq_getElem (l := bs) (i := 2) (by omega)
  rw [← frame_12 h g1 g2, ← frame_12 h' g1 g2]
def OneRet (w : World) (bs : List UInt8) (e : Ending) (w' : World) : Prop :=
  (∃ p A c, p.length ≤ 16384 ∧ bs = wrapB p ∧ e = .returned (.tuple #[.slice A p.length c, .bool true]) ∧ OB w' w.heap.size (.slice A p.length c) p ∧ Below w.heap.size w w') ∨
  ((∀ p, p.length ≤ 16384 → bs ≠ wrapB p) ∧ e = .returned (.tuple #[.slice none 0 0, .bool false]) ∧ Below w.heap.size w w')
theorem one_any (v : Value) (bs : List UInt8) (w : World) (h : RB w v bs) (hl : bs.length ≤ 100000) :
    Calls Tryz.prog 42 #[v] w (OneRet w bs) := by
  obtain ⟨A, c, hv, _⟩ := id h
  have hR := Lib.hid h
  clear h
  subst hv
  go_enter Tryz.func42, Tryz.ntmps42
  go_wp2_with fail
  refine (peel_any _ bs _ hR.out hl).mono ?_
  rintro e w1 (⟨p, rest, A1, c1, hf_, rfl, hO_, hB_⟩ | ⟨hno_, rfl, hB_⟩)
  · have hf := Lib.hid hf_
    have hO := Lib.hid hO_
    have hB := Lib.hid hB_
    have hlen := frame_len hf_
    have hp := hf_.1
    have hz : (((p.length : Int) + 7) == 0) = false := by simp; omega
    clear hf_ hO_ hB_
    by_cases hr : rest.length = 0
    · have hbs : Hid (bs = wrapB p) := Lib.hid (by rw [hf.out.2, List.eq_nil_of_length_eq_zero hr, List.append_nil])
      have hq : (((p.length : Int) + 7) != (bs.length : Int)) = false := by simp; omega
      have hne : ¬ ((p.length : Int) + 7 = 0) := by omega
      clear hlen
      go_wp2_with fail
      refine bodyPost_ret (v := .tuple #[.slice A1 p.length c1, .bool true]) ?_ rfl (.inl ⟨p, A1, c1, hp, hbs.out, rfl, hO.out, hB.out⟩)
      simp [results, Tryz.results42, go_sem]
    · have hno : Hid (∀ p', p'.length ≤ 16384 → bs ≠ wrapB p') := Lib.hid (fun p' hp' he => by
        have h2 : frameAt bs p' [] := ⟨hp', by rw [List.append_nil]; exact he⟩
        have h3 := frame_same hf.out h2
        have h4 := frame_len h2
        simp at h4
        omega)
      have hq : (((p.length : Int) + 7) != (bs.length : Int)) = true := by simp; omega
      have hne : ¬ ((p.length : Int) + 7 = 0) := by omega
      clear hlen
      go_wp2_with fail
      refine bodyPost_ret (v := .tuple #[.slice none 0 0, .bool false]) ?_ rfl (.inr ⟨hno.out, rfl, hB.out⟩)
      simp [results, Tryz.results42, go_sem]
  · have hno : Hid (∀ p', p'.length ≤ 16384 → bs ≠ wrapB p') := Lib.hid (fun p' hp' he => hno_ p' [] ⟨hp', by rw [List.append_nil]; exact he⟩)
    have hB := Lib.hid hB_
    clear hno_ hB_
    go_wp2_with fail
    refine bodyPost_ret (v := .tuple #[.slice none 0 0, .bool false]) ?_ rfl (.inr ⟨hno.out, rfl, hB.out⟩)
    simp [results, Tryz.results42, go_sem]
end Go.Proofs.YteeiacfddjhhkaaGreatDoor
