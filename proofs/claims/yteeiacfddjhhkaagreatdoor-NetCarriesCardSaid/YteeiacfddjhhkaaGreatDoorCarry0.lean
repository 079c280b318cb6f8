/- What an order of messages asks: packets of messages, rows that grow, Send of one. What a net's calls do to its packets, whatever the numbers: Drop, Twice, Move, Hold, Tick; Packet. net.Spoil: one bit of a packet is turned. Decode and Deliver where each packet is of a message that was sent, or is no frame. -/
import Derived.Test.YteeiacfddjhhkaaGreatDoorCut
import Derived.Test.YteeiacfddjhhkaaGreatDoorAwake
import Derived.Test.YteeiacfddjhhkaaGreatDoorTwice
import Derived.Test.YteeiacfddjhhkaaGreatDoorMove
import Derived.Test.YteeiacfddjhhkaaGreatDoorDrop
import Derived.Test.YteeiacfddjhhkaaGreatDoorNet
import Derived.Test.YteeiacfddjhhkaaGreatDoorTurn
import Derived.StillTailTactics
import Derived.Laws.BitsAllLaws
import Derived.Test.YteeiacfddjhhkaaGreatDoorDeliver
import Derived.Test.YteeiacfddjhhkaaGreatDoorSend
namespace Go.Proofs.YteeiacfddjhhkaaGreatDoor
open Go.RowKit
set_option maxRecDepth 100000

def pkOf (x : MV) : PK := ⟨encM x.m, siteM x.m, 0⟩
theorem mvsC_len (l : List MV) : (mvsC l).length = l.length * 11 := by
  induction l with
  | nil => rfl
  | cons x r ih =>
    show (mvC x ++ mvsC r).length = _
    rw [List.length_append, ih, mvC_len, List.length_cons]
    omega
theorem mvsC_snoc (l : List MV) (x : MV) : mvsC (l ++ [x]) = mvsC l ++ mvC x := by simp [mvsC]
theorem Tryz.infoRM : (Tryz.prog.info? 31).map (fun i => (i.zero, i.size, i.bytes)) = some (some (.agg #[.int .i64 0, .int .i64 0, .int .i64 0, .int .i64 0, .int .i64 0, .int .i64 0, .int .i64 0, .int .i64 0, .int .i64 0, .slice none 0 0, .slice none 0 0]), 11, 120) := by kernel_rfl
theorem mvC_one (x : MV) : ∀ u ∈ mvC x, u.oneCell' = true := by
  intro u hu
  simp only [mvC, msgA, List.mem_cons, List.not_mem_nil, or_false] at hu
  rcases hu with rfl | rfl | rfl | rfl | rfl | rfl | rfl | rfl | rfl | rfl | rfl <;> rfl
theorem send_may {most : Int} {ks : List PK} {x : MV} (h : mayM x.m = true) (hk : (ks.length : Int) < most) : sendN most ks ([x].map (·.m)) = ks ++ [pkOf x] := by
  show send1 most ks x.m = _
  unfold send1
  rw [if_pos ⟨h, hk⟩]
  rfl
theorem send_not {most : Int} {ks : List PK} {x : MV} (h : mayM x.m = false) : sendN most ks ([x].map (·.m)) = ks := by
  show send1 most ks x.m = _
  unfold send1
  rw [if_neg (by rw [h]; simp)]
theorem send_full {most : Int} {ks : List PK} {x : MV} (hk : ¬ (ks.length : Int) < most) : sendN most ks ([x].map (·.m)) = ks := by
  show send1 most ks x.m = _
  unfold send1
  rw [if_neg (by rintro ⟨_, h⟩; exact hk h)]
end Go.Proofs.YteeiacfddjhhkaaGreatDoor
namespace Go.Proofs.YteeiacfddjhhkaaGreatDoor
open Go.RowKit
set_option maxRecDepth 100000

/-- A call on a net: it answers a number; its packets' bytes are some of those that were; one more at most. -/
def NetStep (w : World) (p : Nat) (most : Int) (ks : List PK) (w' : World) : Prop :=
  ∃ ks', NetAt w' p most ks' ∧ Kept (NS w p) w w' ∧ ks'.length ≤ ks.length + 1 ∧ ∀ k' ∈ ks', ∃ k ∈ ks, k'.b = k.b
theorem NetStep.same {w w' : World} {p : Nat} {most : Int} {ks : List PK} (h : NetAt w p most ks) (hb : Below w.heap.size w w') : NetStep w p most ks w' :=
  ⟨ks, h.later hb, Kept.of_below _ hb, by omega, fun k hk => ⟨k, hk, rfl⟩⟩
theorem int_cases (i : Int) (n : Nat) : (∃ j : Nat, i = j ∧ j < n) ∨ (i < 0 ∨ (n : Int) ≤ i) := by
  by_cases h0 : i < 0
  · exact .inr (.inl h0)
  · by_cases h1 : (n : Int) ≤ i
    · exact .inr (.inr h1)
    · exact .inl ⟨i.toNat, by omega, by omega⟩
def RetN (w : World) (p : Nat) (most : Int) (ks : List PK) (e : Ending) (w' : World) : Prop := (∃ c : Int, e = .returned (.int .i64 c)) ∧ NetStep w p most ks w'
theorem Drop_step (p : Nat) (most : Int) (ks : List PK) (i : Int) (w : World) (hG : GOk w) (h : NetAt w p most ks) (hl : ks.length ≤ 100000) :
    Calls Tryz.prog 19 #[.pointer (some ⟨p, 0, none⟩), .int .i64 i] w (RetN w p most ks) := by
  rcases int_cases i ks.length with ⟨j, rfl, hj⟩ | hi
  · refine (Drop_ok p most ks j ks[j] w h (List.getElem?_eq_getElem hj) hl).mono ?_
    rintro e w' ⟨rfl, hN, hK⟩
    refine ⟨⟨0, rfl⟩, _, hN, hK, ?_, fun k' hk' => ⟨k', List.mem_of_mem_eraseIdx hk', rfl⟩⟩
    rw [List.length_eraseIdx_of_lt hj]; omega
  · refine (Drop_none p most ks i w hG h hi).mono ?_
    rintro e w' ⟨rfl, hB⟩
    exact ⟨⟨3, rfl⟩, NetStep.same h hB⟩
theorem Twice_step (p : Nat) (most : Int) (ks : List PK) (i : Int) (w : World) (hG : GOk w) (h : NetAt w p most ks) (hl : ks.length ≤ 100000) (hm : (ks.length : Int) < most) :
    Calls Tryz.prog 20 #[.pointer (some ⟨p, 0, none⟩), .int .i64 i] w (RetN w p most ks) := by
  rcases int_cases i ks.length with ⟨j, rfl, hj⟩ | hi
  · refine (Twice_ok p most ks j ks[j] w h (List.getElem?_eq_getElem hj) hl hm).mono ?_
    rintro e w' ⟨rfl, hN, hK⟩
    refine ⟨⟨0, rfl⟩, _, hN, hK, by simp, fun k' hk' => ?_⟩
    rcases List.mem_append.1 hk' with hk' | hk'
    · exact ⟨k', hk', rfl⟩
    · simp at hk'
      subst hk'
      exact ⟨ks[j], List.getElem_mem hj, rfl⟩
  · refine (Twice_none p most ks i w hG h hi).mono ?_
    rintro e w' ⟨rfl, hB⟩
    exact ⟨⟨3, rfl⟩, NetStep.same h hB⟩
theorem Move_bad (p : Nat) (most : Int) (ks : List PK) (i : Nat) (t : Int) (w : World) (hG : GOk w) (h : NetAt w p most ks) (hi : i < ks.length) (ht : t < 0 ∨ (ks.length : Int) ≤ t) :
    Calls Tryz.prog 21 #[.pointer (some ⟨p, 0, none⟩), .int .i64 i, .int .i64 t] w fun e w' => e = .returned (.int .i64 2) ∧ Below w.heap.size w w' := by
  have hGG := Lib.hid hG
  have hN := Lib.hid h
  have hT := Lib.hid ht
  clear hG h ht
  go_enter Tryz.func21, Tryz.ntmps21
  go_wp2_with fail
  refine (at_ok p most ks i _ hN.out hi).mono ?_
  rintro e w ⟨rfl, rfl⟩
  go_wp2_with fail
  refine (at_none p most ks t _ hN.out hT.out).mono ?_
  rintro e w1 ⟨T, b, rfl, hE_, hB_⟩
  have hB1 := Lib.hid hB_
  clear hE_ hB_
  go_wp2_with fail
  refine (new_err 2 (by decide) _).mono ?_
  rintro e w2 ⟨T2, b2, rfl, hE_, hB_⟩
  have hE2 := Lib.hid hE_
  have hB2 := Lib.hid (bnext hB1.out hB_)
  clear hE_ hB_
  go_wp2_with fail
  refine (at_any t _ 2 _ hE2.out).mono ?_
  rintro e w3 ⟨T3, b3, rfl, hE_, hB_⟩
  have hE3 := Lib.hid hE_
  have hB3 := Lib.hid (bnext hB2.out hB_)
  clear hE_ hB_
  go_wp2_with fail
  refine (code_err _ 2 _ hE3.out (hGG.out.below hB3.out)).mono ?_
  rintro e w4 ⟨rfl, hB_⟩
  have hB4 := Lib.hid (bnext hB3.out hB_)
  clear hB_
  go_wp2_with fail
  go_ret
  exact ⟨rfl, hB4.out⟩
theorem Move_step (p : Nat) (most : Int) (ks : List PK) (i t : Int) (w : World) (hG : GOk w) (h : NetAt w p most ks) (hl : ks.length ≤ 100000) :
    Calls Tryz.prog 21 #[.pointer (some ⟨p, 0, none⟩), .int .i64 i, .int .i64 t] w (RetN w p most ks) := by
  rcases int_cases i ks.length with ⟨j, rfl, hj⟩ | hi
  · rcases int_cases t ks.length with ⟨n, rfl, hn⟩ | ht
    · refine (Move_ok p most ks j n ks[j] w h (List.getElem?_eq_getElem hj) hn hl).mono ?_
      rintro e w' ⟨rfl, hN, hK⟩
      refine ⟨⟨0, rfl⟩, _, hN, hK, ?_, fun k' hk' => ?_⟩
      · unfold moveL
        rw [List.length_insertIdx_of_le_length (by rw [List.length_eraseIdx_of_lt hj]; omega), List.length_eraseIdx_of_lt hj]
        omega
      · unfold moveL at hk'
        rcases (List.mem_insertIdx (by rw [List.length_eraseIdx_of_lt hj]; omega)).1 hk' with rfl | hk'
        · exact ⟨ks[j], List.getElem_mem hj, rfl⟩
        · exact ⟨k', List.mem_of_mem_eraseIdx hk', rfl⟩
    · refine (Move_bad p most ks j t w hG h hj ht).mono ?_
      rintro e w' ⟨rfl, hB⟩
      exact ⟨⟨2, rfl⟩, NetStep.same h hB⟩
  · refine (Move_none p most ks i t w hG h hi).mono ?_
    rintro e w' ⟨rfl, hB⟩
    exact ⟨⟨3, rfl⟩, NetStep.same h hB⟩
theorem Hold_bad (p : Nat) (most : Int) (ks : List PK) (i : Nat) (t : Int) (w : World) (hG : GOk w) (h : NetAt w p most ks) (hi : i < ks.length) (ht : t < 0 ∨ 1000 < t) :
    Calls Tryz.prog 22 #[.pointer (some ⟨p, 0, none⟩), .int .i64 i, .int .i64 t] w fun e w' => e = .returned (.int .i64 2) ∧ Below w.heap.size w w' := by
  have hGG := Lib.hid hG
  have hN := Lib.hid h
  clear hG h
  by_cases h0 : t < 0
  · have d1 : decide (t < 0) = true := by simpa using h0
    clear ht h0
    go_enter Tryz.func22, Tryz.ntmps22
    go_wp2_with fail
    refine (at_ok p most ks i _ hN.out hi).mono ?_
    rintro e w ⟨rfl, rfl⟩
    go_wp2_with fail
    refine (new_err 2 (by decide) _).mono ?_
    rintro e w2 ⟨T2, b2, rfl, hE_, hB_⟩
    have hE2 := Lib.hid hE_
    have hB2 := Lib.hid hB_
    clear hE_ hB_
    go_wp2_with fail
    refine (bound_any 1000 t _ 2 _ hE2.out).mono ?_
    rintro e w3 ⟨T3, b3, rfl, hE_, hB_⟩
    have hE3 := Lib.hid hE_
    have hB3 := Lib.hid (bnext hB2.out hB_)
    clear hE_ hB_
    go_wp2_with fail
    refine (code_err _ 2 _ hE3.out (hGG.out.below hB3.out)).mono ?_
    rintro e w4 ⟨rfl, hB_⟩
    have hB4 := Lib.hid (bnext hB3.out hB_)
    clear hB_
    go_wp2_with fail
    go_ret
    exact ⟨rfl, hB4.out⟩
  · have d1 : decide (t < 0) = false := by simpa using h0
    have d2 : decide (1000 < t) = true := by simp; omega
    clear ht h0
    go_enter Tryz.func22, Tryz.ntmps22
    go_wp2_with fail
    refine (at_ok p most ks i _ hN.out hi).mono ?_
    rintro e w ⟨rfl, rfl⟩
    go_wp2_with fail
    refine (new_err 2 (by decide) _).mono ?_
    rintro e w2 ⟨T2, b2, rfl, hE_, hB_⟩
    have hE2 := Lib.hid hE_
    have hB2 := Lib.hid hB_
    clear hE_ hB_
    go_wp2_with fail
    refine (bound_any 1000 t _ 2 _ hE2.out).mono ?_
    rintro e w3 ⟨T3, b3, rfl, hE_, hB_⟩
    have hE3 := Lib.hid hE_
    have hB3 := Lib.hid (bnext hB2.out hB_)
    clear hE_ hB_
    go_wp2_with fail
    refine (code_err _ 2 _ hE3.out (hGG.out.below hB3.out)).mono ?_
    rintro e w4 ⟨rfl, hB_⟩
    have hB4 := Lib.hid (bnext hB3.out hB_)
    clear hB_
    go_wp2_with fail
    go_ret
    exact ⟨rfl, hB4.out⟩
theorem Hold_step (p : Nat) (most : Int) (ks : List PK) (i t : Int) (w : World) (hG : GOk w) (h : NetAt w p most ks) :
    Calls Tryz.prog 22 #[.pointer (some ⟨p, 0, none⟩), .int .i64 i, .int .i64 t] w (RetN w p most ks) := by
  rcases int_cases i ks.length with ⟨j, rfl, hj⟩ | hi
  · by_cases ht : 0 ≤ t ∧ t ≤ 1000
    · refine (Hold_ok p most ks j ks[j] t w h (List.getElem?_eq_getElem hj) ht).mono ?_
      rintro e w' ⟨rfl, hN, hK⟩
      refine ⟨⟨0, rfl⟩, _, hN, hK, by simp, fun k' hk' => ?_⟩
      rcases List.mem_or_eq_of_mem_set hk' with hk' | rfl
      · exact ⟨k', hk', rfl⟩
      · exact ⟨ks[j], List.getElem_mem hj, rfl⟩
    · refine (Hold_bad p most ks j t w hG h hj (by omega)).mono ?_
      rintro e w' ⟨rfl, hB⟩
      exact ⟨⟨2, rfl⟩, NetStep.same h hB⟩
  · refine (Hold_none p most ks i t w hG h hi).mono ?_
    rintro e w' ⟨rfl, hB⟩
    exact ⟨⟨3, rfl⟩, NetStep.same h hB⟩
theorem Tick_step (p : Nat) (most : Int) (ks : List PK) (w : World) (h : NetAt w p most ks) (hl : ks.length ≤ 100000) :
    Calls Tryz.prog 24 #[.pointer (some ⟨p, 0, none⟩)] w fun e w' => e = .returned (.tuple #[]) ∧ NetStep w p most ks w' := by
  refine (Tick_net p most ks w h hl).mono ?_
  rintro e w' ⟨rfl, hN, hK⟩
  refine ⟨rfl, _, hN, hK, by rw [tickN_len]; omega, fun k' hk' => ?_⟩
  unfold tickN at hk'
  rw [List.take_length, List.drop_length, List.append_nil] at hk'
  obtain ⟨k, h1, rfl⟩ := List.mem_map.1 hk'
  exact ⟨k, h1, rfl⟩
/-- The bytes of a packet, none where there is none. -/
def bytesAt (ks : List PK) (i : Int) : List UInt8 := if 0 ≤ i then ((ks[i.toNat]?).map (·.b)).getD [] else []
theorem bytesAt_in {ks : List PK} {j : Nat} (hj : j < ks.length) : bytesAt ks j = ks[j].b := by
  unfold bytesAt
  rw [if_pos (by omega), Int.toNat_natCast, List.getElem?_eq_getElem hj]
  rfl
theorem bytesAt_out {ks : List PK} {i : Int} (h : i < 0 ∨ (ks.length : Int) ≤ i) : bytesAt ks i = [] := by
  unfold bytesAt
  split
  · rw [List.getElem?_eq_none (by omega)]; rfl
  · rfl
theorem Packet_any (p : Nat) (most : Int) (ks : List PK) (i : Int) (w : World) (h : NetAt w p most ks) :
    Calls Tryz.prog 18 #[.pointer (some ⟨p, 0, none⟩), .int .i64 i] w fun e w' => ∃ A c, e = .returned (.slice A (bytesAt ks i).length c) ∧ RB w' (.slice A (bytesAt ks i).length c) (bytesAt ks i) ∧ Below w.heap.size w w' := by
  rcases int_cases i ks.length with ⟨j, rfl, hj⟩ | hi
  · have hk : ks[j]? = some ks[j] := List.getElem?_eq_getElem hj
    have hN := Lib.hid h
    obtain ⟨g, c, mb, mk, vs, v, h1, h2, h3, h4, h5, h6, hv, hov⟩ := h.row hk
    have x1 : w.cell? ⟨p, 1, none⟩ = some (.slice (some ⟨g, 0, none⟩) ks.length c) := by rw [block_cell h1]; rfl
    have y0 : w.cell? ⟨g, j * 3, none⟩ = some v := by rw [h4.cellAt _ (by omega)]; exact (pksC_get vs ks j _ _ hv hk).1
    have hbl := (h6 j v _ hv hk).2.1
    obtain ⟨A, d, rfl⟩ := own_slice hov
    have hO := Lib.hid (RB.of_own hov)
    have hbk : Hid (ks[j].b.length ≤ 1000000) := Lib.hid (by omega)
    rw [bytesAt_in hj]
    clear h h1 h2 h3 h4 h5 h6 hv hov hk hbl
    generalize ks[j].b = bs at *
    go_enter Tryz.func18, Tryz.ntmps18
    go_wp2_with fail
    refine (at_ok p most ks j _ hN.out hj).mono ?_
    rintro e w ⟨rfl, rfl⟩
    go_wp2_with fail
    refine (clone_any _ bs _ hO.out hbk.out).mono ?_
    rintro e w1 ⟨A1, d1, rfl, hO1_, hB1_⟩
    have hO1 := Lib.hid hO1_
    have hB1 := Lib.hid hB1_
    clear hO1_ hB1_
    go_wp2_with fail
    go_ret
    exact ⟨A1, d1, rfl, RB.of_own hO1.out, hB1.out⟩
  · rw [bytesAt_out hi]
    refine (Packet_none p most ks i w h hi).mono ?_
    rintro e w' ⟨rfl, hB⟩
    exact ⟨none, 0, rfl, RB.of_own (OB.nil w' 0), hB⟩
end Go.Proofs.YteeiacfddjhhkaaGreatDoor
namespace Go.Proofs.YteeiacfddjhhkaaGreatDoor
open Go.RowKit
set_option maxRecDepth 100000

/-- A bit turned. -/
def turnB (bs : List UInt8) (n : Nat) : List UInt8 := bs.set (n / 8) ((bs[n / 8]?.getD 0) ^^^ UInt8.ofNat (2 ^ (n % 8)))
theorem turnB_len (bs : List UInt8) (n : Nat) : (turnB bs n).length = bs.length := by simp [turnB]
/-- One bit of a frame turned: no frame. -/
theorem turnB_no (p : List UInt8) (n : Nat) (hn : n < 8 * (wrapB p).length) : ∀ q : List UInt8, q.length ≤ 16384 → turnB (wrapB p) n ≠ wrapB q := by
  intro q _
  have hlt : n / 8 < (wrapB p).length := by omega
  refine wrap_turned p q _ (n / 8) (turnB_len _ _) (fun j hj => ?_) ?_
  · unfold turnB
    rw [List.getElem?_set_ne (by omega)]
  · unfold turnB
    rw [List.getElem?_set_self hlt, List.getElem?_eq_getElem hlt, Option.getD_some]
    simp only [ne_eq, Option.some.injEq]
    exact turn_ne _ _ (by omega)
theorem pksC_set (vs : List Value) (ks : List PK) (i : Nat) (v : Value) (k : PK) (b : List UInt8) (hl : vs.length = ks.length) (hk : ks[i]? = some k) : (pksC vs ks).set (i * 3) v = pksC (vs.set i v) (ks.set i { k with b := b }) := by
  induction vs generalizing ks i with
  | nil =>
    cases ks with
    | nil => simp at hk
    | cons => simp at hl
  | cons v0 vs ih =>
    cases ks with
    | nil => simp at hl
    | cons k0 ks =>
      cases i with
      | zero =>
        simp at hk
        subst hk
        rfl
      | succ i =>
        have h := ih ks i (by simpa using hl) (by simpa using hk)
        rw [List.set_cons_succ, List.set_cons_succ, pksC_cons, pksC_cons, ← h]
        have e : (i + 1) * 3 = i * 3 + 3 := by omega
        rw [e]
        rfl
/-- Another slice of bytes is set into a packet. -/
theorem NetAt.turned {w w1 : World} {p : Nat} {most : Int} {ks : List PK} {g c mb mk : Nat} {vs : List Value} {i : Nat} {k : PK} {v1 : Value} {b1 : List UInt8}
    (h1 : w.heap[p]? = some (.cells #[.int .i64 most, .slice (some ⟨g, 0, none⟩) ks.length c, .map (some mb)] 71 (0, 0))) (h2 : w.heap[mb]? = some (.map #[] mk)) (h3 : mb < p) (h4 : w.ownsRow (p + 1) 77 3 (.slice (some ⟨g, 0, none⟩) ks.length c) ks.length (pksC vs ks)) (h5 : vs.length = ks.length)
    (h6 : ∀ (i : Nat) (v : Value) (k : PK), vs[i]? = some v → ks[i]? = some k → OB w (p + 1) v k.b ∧ k.b.length ≤ 100000 ∧ 0 ≤ k.waits ∧ k.waits ≤ 1000) (hk : ks[i]? = some k) (hB : Below w.heap.size w w1) (hv : OB w1 (p + 1) v1 b1) (hbl : b1.length ≤ 100000) :
    NetAt (w1.setCell ⟨g, i * 3, none⟩ v1) p most (ks.set i { k with b := b1 }) ∧ Kept (NS w p) w (w1.setCell ⟨g, i * 3, none⟩ v1) := by
  have hg := own_ge h4 g rfl
  have h41 := own_below h4 hB
  obtain ⟨ho, _⟩ := h41.stored (i * 3) v1
  rw [pksC_set vs ks i v1 k b1 h5 hk] at ho
  obtain ⟨cur, hcur⟩ := own_type h41 (g := g) rfl
  have hfar : ∀ j, j ≠ g → (w1.setCell ⟨g, i * 3, none⟩ v1).heap[j]? = w1.heap[j]? := fun j hj => Below.heap_setCell _ _ _ _ (by simpa using hj)
  have kB : Kept (NS w1 p) w1 (w1.setCell ⟨g, i * 3, none⟩ v1) := Kept.setCell (p := ⟨g, i * 3, none⟩) (Kept.refl _ w1) (.inl ⟨by show p ≤ g; omega, cur, _, _, hcur, .inl rfl⟩) _
  refine ⟨⟨some ⟨g, 0, none⟩, c, mb, mk, vs.set i v1, ?_, ?_, h3, ?_, ?_, ?_⟩, KeptN_trans (Kept.of_below _ hB) kB⟩
  · rw [List.length_set, hfar p (by omega)]; exact block_below hB h1
  · rw [hfar mb (by omega)]; exact block_below hB h2
  · rw [List.length_set]; exact ho
  · rw [List.length_set, List.length_set]; exact h5
  · intro j v k' hv' hk'
    by_cases hij : i = j
    · subst hij
      have hil : i < vs.length := by rw [h5]; exact (List.getElem?_eq_some_iff.1 hk).1
      rw [List.getElem?_set_self hil] at hv'
      rw [List.getElem?_set_self (by rw [← h5]; exact hil)] at hk'
      cases hv'
      cases hk'
      obtain ⟨_, a2⟩ := h6 i vs[i] k (List.getElem?_eq_getElem hil) hk
      exact ⟨hv.keptN kB, hbl, a2.2⟩
    · rw [List.getElem?_set_ne hij] at hv' hk'
      obtain ⟨a1, a2⟩ := h6 j v k' hv' hk'
      exact ⟨(a1.below hB).keptN kB, a2⟩
theorem u8s_set (bs : List UInt8) (j : Nat) (b : UInt8) : u8s (bs.set j b) = (u8s bs).set j (.int .u8 (b.toNat : Int)) := by simp [u8s, List.map_set]
set_option maxHeartbeats 1000000 in
theorem Spoil_ok (p : Nat) (most : Int) (ks : List PK) (i : Nat) (k : PK) (n : Nat) (w : World) (h : NetAt w p most ks) (hk : ks[i]? = some k) (hn : n < 8 * k.b.length) :
    Calls Tryz.prog 23 #[.pointer (some ⟨p, 0, none⟩), .int .i64 i, .int .i64 n] w fun e w' => e = .returned (.int .i64 0) ∧ NetAt w' p most (ks.set i { k with b := turnB k.b n }) ∧ Kept (NS w p) w w' := by
  have hi : i < ks.length := (List.getElem?_eq_some_iff.1 hk).1
  have hN := Lib.hid h
  obtain ⟨g, c, mb, mk, vs, v, h1, h2, h3, h4, h5, h6, hv, hov⟩ := h.row hk
  have x1 : w.cell? ⟨p, 1, none⟩ = some (.slice (some ⟨g, 0, none⟩) ks.length c) := by rw [block_cell h1]; rfl
  have y0 : w.cell? ⟨g, i * 3, none⟩ = some v := by rw [h4.cellAt _ (by omega)]; exact (pksC_get vs ks i _ k hv hk).1
  have hbl := (h6 i v k hv hk).2.1
  obtain ⟨A, d, rfl⟩ := own_slice hov
  have hH := Lib.hid (And.intro h1 (And.intro h2 (And.intro h3 (And.intro h4 (And.intro h5 (And.intro h6 (And.intro hv (And.intro hov hk))))))))
  clear h h1 h2 h3 h4 h5 h6 hv hov hk
  obtain ⟨bs, hbs⟩ : ∃ bs, bs = k.b := ⟨_, rfl⟩
  rw [← hbs] at hn hbl y0 ⊢
  have hBS := Lib.hid hbs
  clear hbs
  have d1 : decide ((n : Int) < 0) = false := by simp
  have d2 : decide ((8 : Int) * bs.length ≤ n) = false := by simp; omega
  have hRb : Hid (RB w (.slice A bs.length d) bs) := Lib.hid (by rw [hBS.out]; exact RB.of_own hH.out.2.2.2.2.2.2.2.1)
  have hbk : Hid (bs.length ≤ 1000000) := Lib.hid (by omega)
  go_enter Tryz.func23, Tryz.ntmps23
  go_wp2_with fail
  refine (at_ok p most ks i _ hN.out hi).mono ?_
  rintro e w ⟨rfl, rfl⟩
  go_wp2_with fail
  refine (clone_any _ bs _ hRb.out hbk.out).mono ?_
  rintro e w1 ⟨A1, d3, rfl, hO1_, hB1_⟩
  have hO1 := Lib.hid hO1_
  have hB1 := Lib.hid hB1_
  go_wp2_with fail
  clear hO1_ hB1_
  have hlt : n / 8 < bs.length := by omega
  obtain ⟨b1, rfl⟩ : ∃ b1, A1 = some ⟨b1, 0, none⟩ := by
    rcases hO1.out.2 with ⟨_, h'⟩ | ⟨g', cap', cur, h', _⟩
    · omega
    · cases h'
      exact ⟨_, rfl⟩
  have hpl : Hid (p < w.heap.size) := Lib.hid (by have := hH.out.1; exact (Array.getElem?_eq_some_iff.1 this).1)
  obtain ⟨b0, hb0_⟩ : ∃ b0, bs[n / 8]? = some b0 := ⟨_, List.getElem?_eq_getElem hlt⟩
  have hb0 := Lib.hid hb0_
  have c0 : w1.cell? ⟨b1, n / 8, none⟩ = some (.int .u8 (b0.toNat : Int)) := by
    have := hO1.out.cellAt (n / 8) (by omega)
    rw [this]
    simp [u8s, hb0_]
  have f0 : w1.frozen? ⟨b1, n / 8, none⟩ = false := hO1.out.frozenAt _
  clear hb0_
  have hq : Int.tdiv (n : Int) 8 = ((n / 8 : Nat) : Int) := rfl
  have hr : Int.tmod (n : Int) 8 = ((n % 8 : Nat) : Int) := rfl
  have hq2 : (n : Int) / 8 = ((n / 8 : Nat) : Int) := rfl
  have hr2 : (n : Int) % 8 = ((n % 8 : Nat) : Int) := rfl
  obtain ⟨t, ht⟩ : ∃ t, t = n % 8 := ⟨_, rfl⟩
  obtain ⟨q, hqq⟩ : ∃ q, q = n / 8 := ⟨_, rfl⟩
  have hT := Lib.hid ht
  have hQ := Lib.hid hqq
  rw [← hqq] at hq hq2 c0 f0 hlt
  rw [← ht] at hr hr2
  have ht8 : t < 8 := by omega
  clear ht hqq
  have c1 : w1.drew.cell? ⟨b1, q, none⟩ = some (.int .u8 (b0.toNat : Int)) := c0
  have f1 : w1.drew.frozen? ⟨b1, q, none⟩ = false := f0
  have hx8 : ∃ z : Nat, z = 2 ^ t ∧ z < 256 := ⟨_, rfl, by have := Nat.pow_lt_pow_right (a := 2) (by decide) ht8; simpa using this⟩
  obtain ⟨z, hz, hz2⟩ := hx8
  have hwq : IntKind.i64.wrap (q : Int) = q := by rw [IntKind.wrap_i64]; omega
  have hz3 : (2 : Int) ^ t = (z : Int) := by rw [hz]; norm_cast
  have hwz : IntKind.u8.wrap (z : Int) = z := by rw [IntKind.wrap_u8]; omega
  have hsh : Op.shift .shl .u8 1 .i64 (t : Int) = pure (.int .u8 (z : Int)) := by rw [shift_shl _ _ _ _ (by omega) (by simp [IntKind.bits]; omega), Int.toNat_natCast, Int.one_mul, hz3, hwz]
  have hZ := Lib.hid hz
  clear hz hz3 hwz
  have hbx : bits .xor .u8 (b0.toNat : Int) (z : Int) = (((b0.toNat ^^^ z : Nat)) : Int) := u8_xor_nat _ _ b0.toNat_lt hz2
  go_still_tail 10, (by kernel_rfl)
  change wpList _ _ _ _ _ w1.drew
  have x1d : w1.drew.cell? ⟨p, 1, none⟩ = some (.slice (some ⟨g, 0, none⟩) ks.length c) := ((hB1.out.cell (p := ⟨p, 1, none⟩) hpl.out).trans x1)
  have hgl : Hid (g < w.heap.size) := Lib.hid (World.block_lt_of_cell? w ⟨g, i * 3, none⟩ y0)
  have y0d : w1.drew.cell? ⟨g, i * 3, none⟩ = some (.slice A bs.length d) := ((hB1.out.cell (p := ⟨g, i * 3, none⟩) hgl.out).trans y0)
  have z0d : w1.drew.frozen? ⟨g, i * 3, none⟩ = false := (hB1.out.frozen (p := ⟨g, i * 3, none⟩) hgl.out).trans (hH.out.2.2.2.1.frozenAt _)
  have hBd : Hid (Below w.heap.size w w1.drew) := Lib.hid (hB1.out.drew)
  have hOd : Hid (OB w1.drew w.heap.size (.slice (some ⟨b1, 0, none⟩) bs.length d3) bs) := Lib.hid hO1.out
  generalize w1.drew = wd at *
  have hge : w.heap.size ≤ b1 := own_ge hOd.out b1 rfl
  have n1 : ¬ p = b1 := by have := hpl.out; omega
  have n2 : ¬ b1 = p := by have := hpl.out; omega
  have n3 : ¬ g = b1 := by have := hgl.out; omega
  have n4 : ¬ b1 = g := by have := hgl.out; omega
  go_wp2_with fail
  have hzz : (2 : Int) ^ t % 256 = (z : Int) := by
    have h1 : (2 : Int) ^ t = (z : Int) := by rw [hZ.out]; norm_cast
    rw [h1]; omega
  rw [hzz, hbx]
  obtain ⟨ho, _⟩ := hOd.out.stored q (.int .u8 ((b0.toNat ^^^ z : Nat) : Int))
  have htn : ((b0 ^^^ UInt8.ofNat (2 ^ (n % 8))).toNat : Int) = ((b0.toNat ^^^ z : Nat) : Int) := by
    rw [UInt8.toNat_xor, UInt8.toNat_ofNat', ← hT.out, ← hZ.out, Nat.mod_eq_of_lt (by simpa using hz2)]
  have ht : u8s (turnB bs n) = (u8s bs).set q (.int .u8 ((b0.toNat ^^^ z : Nat) : Int)) := by
    unfold turnB
    rw [hb0.out, Option.getD_some, u8s_set, htn, ← hQ.out]
  have hOB : OB (wd.setCell ⟨b1, q, none⟩ (.int .u8 ((b0.toNat ^^^ z : Nat) : Int))) (p + 1) (.slice (some ⟨b1, 0, none⟩) bs.length d3) (turnB bs n) := by
    refine OB.lower (base := w.heap.size) ?_ hpl.out
    unfold OB
    rw [ht, turnB_len]
    exact ho
  have hBS2 : Below w.heap.size w (wd.setCell ⟨b1, q, none⟩ (.int .u8 ((b0.toNat ^^^ z : Nat) : Int))) := hBd.out.setCell hge _
  obtain ⟨q1, q2, q3, q4, q5, q6, q7, q8, q9⟩ := hH.out
  have hend := NetAt.turned (i := i) q1 q2 q3 q4 q5 q6 q9 hBS2 hOB (by rw [turnB_len]; exact hbl)
  rw [hBS.out] at hend ⊢
  generalize (wd.setCell ⟨b1, q, none⟩ (.int .u8 ((b0.toNat ^^^ z : Nat) : Int))).setCell ⟨g, i * 3, none⟩ (.slice (some ⟨b1, 0, none⟩) k.b.length d3) = W at *
  go_ret
  exact ⟨rfl, hend⟩
theorem Spoil_bad (p : Nat) (most : Int) (ks : List PK) (i : Nat) (k : PK) (n : Int) (w : World) (hG : GOk w) (h : NetAt w p most ks) (hk : ks[i]? = some k) (hn : n < 0 ∨ 8 * (k.b.length : Int) ≤ n) :
    Calls Tryz.prog 23 #[.pointer (some ⟨p, 0, none⟩), .int .i64 i, .int .i64 n] w fun e w' => e = .returned (.int .i64 2) ∧ Below w.heap.size w w' := by
  have hi : i < ks.length := (List.getElem?_eq_some_iff.1 hk).1
  have hN := Lib.hid h
  have hGG := Lib.hid hG
  obtain ⟨g, c, mb, mk, vs, v, h1, h2, h3, h4, h5, h6, hv, hov⟩ := h.row hk
  have x1 : w.cell? ⟨p, 1, none⟩ = some (.slice (some ⟨g, 0, none⟩) ks.length c) := by rw [block_cell h1]; rfl
  have y0 : w.cell? ⟨g, i * 3, none⟩ = some v := by rw [h4.cellAt _ (by omega)]; exact (pksC_get vs ks i _ k hv hk).1
  have hbl := (h6 i v k hv hk).2.1
  obtain ⟨A, d, rfl⟩ := own_slice hov
  clear h h1 h2 h3 h4 h5 h6 hv hov hk hG
  generalize k.b.length = bl at *
  by_cases h0 : n < 0
  · have d1 : decide (n < 0) = true := by simpa using h0
    clear hn h0
    go_enter Tryz.func23, Tryz.ntmps23
    go_wp2_with fail
    refine (at_ok p most ks i _ hN.out hi).mono ?_
    rintro e w ⟨rfl, rfl⟩
    go_wp2_with fail
    refine (new_err 2 (by decide) _).mono ?_
    rintro e w2 ⟨T2, b2, rfl, hE_, hB_⟩
    have hE2 := Lib.hid hE_
    have hB2 := Lib.hid hB_
    clear hE_ hB_
    go_wp2_with fail
    refine (at_any i _ 2 _ hE2.out).mono ?_
    rintro e w3 ⟨T3, b3, rfl, hE_, hB_⟩
    have hE3 := Lib.hid hE_
    have hB3 := Lib.hid (bnext hB2.out hB_)
    clear hE_ hB_
    go_wp2_with fail
    refine (code_err _ 2 _ hE3.out (hGG.out.below hB3.out)).mono ?_
    rintro e w4 ⟨rfl, hB_⟩
    have hB4 := Lib.hid (bnext hB3.out hB_)
    clear hB_
    go_wp2_with fail
    go_ret
    exact ⟨rfl, hB4.out⟩
  · have d1 : decide (n < 0) = false := by simpa using h0
    have d2 : decide (8 * (bl : Int) ≤ n) = true := by simp; omega
    clear hn h0
    go_enter Tryz.func23, Tryz.ntmps23
    go_wp2_with fail
    refine (at_ok p most ks i _ hN.out hi).mono ?_
    rintro e w ⟨rfl, rfl⟩
    go_wp2_with fail
    refine (new_err 2 (by decide) _).mono ?_
    rintro e w2 ⟨T2, b2, rfl, hE_, hB_⟩
    have hE2 := Lib.hid hE_
    have hB2 := Lib.hid hB_
    clear hE_ hB_
    go_wp2_with fail
    refine (at_any i _ 2 _ hE2.out).mono ?_
    rintro e w3 ⟨T3, b3, rfl, hE_, hB_⟩
    have hE3 := Lib.hid hE_
    have hB3 := Lib.hid (bnext hB2.out hB_)
    clear hE_ hB_
    go_wp2_with fail
    refine (code_err _ 2 _ hE3.out (hGG.out.below hB3.out)).mono ?_
    rintro e w4 ⟨rfl, hB_⟩
    have hB4 := Lib.hid (bnext hB3.out hB_)
    clear hB_
    go_wp2_with fail
    go_ret
    exact ⟨rfl, hB4.out⟩
end Go.Proofs.YteeiacfddjhhkaaGreatDoor
namespace Go.Proofs.YteeiacfddjhhkaaGreatDoor
open Go.RowKit
set_option maxRecDepth 100000

def okM (m : PMsg) : Prop := mayM m = true ∧ i64ok m.ticket ∧ (∀ n ∈ m.told, i64ok n) ∧ (∀ o ∈ m.ops, o.ok)
/-- Bytes of a message of S. -/
def GoodS (S : List MV) (b : List UInt8) : Prop := ∃ x ∈ S, okM x.m ∧ b = encM x.m
def NoF (b : List UInt8) : Prop := ∀ q : List UInt8, q.length ≤ 16384 → b ≠ wrapB q
theorem enc_frame {m : PMsg} (h : mayM m = true) : encM m = wrapB (bodyM m) ∧ (bodyM m).length ≤ 1000 := by
  refine ⟨?_, bodyM_len h⟩
  unfold encM
  rw [if_pos h]
theorem good_not {S : List MV} {b : List UInt8} (h : GoodS S b) : ¬ NoF b := by
  obtain ⟨x, _, hx, rfl⟩ := h
  intro hn
  obtain ⟨e, hl⟩ := enc_frame hx.1
  exact hn _ (by omega) e
theorem nil_no : NoF [] := by
  intro q _ h
  have := congrArg List.length h
  rw [wrapB_length] at this
  simp at this
theorem GoodS.mono {S : List MV} {b : List UInt8} (h : GoodS S b) (x : MV) : GoodS (S ++ [x]) b := by
  obtain ⟨y, hy, h1, h2⟩ := h
  exact ⟨y, by simp [hy], h1, h2⟩
def zeroM : PMsg := ⟨0, 0, 0, 0, 0, 0, 0, 0, 0, [], []⟩
theorem zeroM_r (w : World) : MsgR w zeroM none 0 none 0 :=
  ⟨RowAt.nil _ _, RowAt.nil _ _, by simp [zeroM], by simp [zeroM], by simp [zeroM], by simp [zeroM], by simp [zeroM], by simp [zeroM, i64ok]⟩
theorem dec_any (S : List MV) (v : Value) (b : List UInt8) (w : World) (h : RB w v b) (hG : GOk w) (hb : GoodS S b ∨ NoF b) (hl : b.length ≤ 100000) :
    Calls Tryz.prog 17 #[v] w fun e w' => ∃ (y : MV) (code : Int), e = .returned (.tuple #[.agg (msgA y.m y.A y.c y.B y.d), .int .i64 code]) ∧ ((code = 0 ∧ GoodS S b) ∨ (code = 6 ∧ NoF b)) ∧ Below w.heap.size w w' := by
  rcases hb with hb | hb
  · obtain ⟨x, hx, hok, rfl⟩ := id hb
    refine (dec_good x.m v w hok.1 h hG hok.2).mono ?_
    rintro e w' ⟨A, c, B, d, rfl, _, _, hB⟩
    exact ⟨⟨x.m, A, c, B, d⟩, 0, rfl, .inl ⟨rfl, hb⟩, hB⟩
  · refine (dec_bad v b w h hl hb).mono ?_
    rintro e w' ⟨rfl, hB⟩
    exact ⟨⟨zeroM, none, 0, none, 0⟩, 6, rfl, .inr ⟨rfl, hb⟩, hB⟩
theorem NetAt.bound {w : World} {p : Nat} {most : Int} {ks : List PK} (h : NetAt w p most ks) {j : Nat} {k : PK} (hk : ks[j]? = some k) : k.b.length ≤ 100000 ∧ 0 ≤ k.waits := by
  obtain ⟨g, c, mb, mk, vs, v, h1, h2, h3, h4, h5, h6, hv, hov⟩ := h.row hk
  have := h6 j v k hv hk
  exact ⟨this.2.1, this.2.2.1⟩
theorem bytesAt_cases {S : List MV} {ks : List PK} (hb : ∀ k ∈ ks, GoodS S k.b ∨ NoF k.b) (i : Int) : GoodS S (bytesAt ks i) ∨ NoF (bytesAt ks i) := by
  rcases int_cases i ks.length with ⟨j, rfl, hj⟩ | hi
  · rw [bytesAt_in hj]
    exact hb _ (List.getElem_mem hj)
  · rw [bytesAt_out hi]
    exact .inr nil_no
theorem bytesAt_len {w : World} {p : Nat} {most : Int} {ks : List PK} (h : NetAt w p most ks) (i : Int) : (bytesAt ks i).length ≤ 100000 := by
  rcases int_cases i ks.length with ⟨j, rfl, hj⟩ | hi
  · rw [bytesAt_in hj]
    exact (h.bound (List.getElem?_eq_getElem hj)).1
  · rw [bytesAt_out hi]
    simp
/-- Deliver, whatever the number. -/
theorem Deliver_step (S : List MV) (p : Nat) (most : Int) (ks : List PK) (i : Int) (w : World) (hG : GOk w) (h : NetAt w p most ks) (hl : ks.length ≤ 100000) (hb : ∀ k ∈ ks, GoodS S k.b ∨ NoF k.b) :
    Calls Tryz.prog 11 #[.pointer (some ⟨p, 0, none⟩), .int .i64 i] w fun e w' => ∃ (y : MV) (code : Int), e = .returned (.tuple #[.agg (msgA y.m y.A y.c y.B y.d), .int .i64 code]) ∧ MsgR w' y.m y.A y.c y.B y.d ∧ NetStep w p most ks w' ∧ (code ≠ 0 ∨ (GoodS S (bytesAt ks i) ∧ ∃ x ∈ S, y.m = x.m)) := by
  rcases int_cases i ks.length with ⟨j, rfl, hj⟩ | hi
  · have hk : ks[j]? = some ks[j] := List.getElem?_eq_getElem hj
    have hbd := h.bound hk
    by_cases hw : 0 < ks[j].waits
    · refine (Deliver_busy p most ks j ks[j] w hG h hk hw).mono ?_
      rintro e w' ⟨rfl, hB⟩
      exact ⟨⟨zeroM, none, 0, none, 0⟩, 20, rfl, zeroM_r _, NetStep.same h hB, .inl (by decide)⟩
    · have hw0 : ks[j].waits = 0 := by omega
      have hstep : ∀ w', NetAt w' p most (ks.eraseIdx j) → Kept (NS w p) w w' → NetStep w p most ks w' := fun w' hN hK => by
        refine ⟨_, hN, hK, ?_, fun k' hk' => ⟨k', List.mem_of_mem_eraseIdx hk', rfl⟩⟩
        rw [List.length_eraseIdx_of_lt hj]
        omega
      rcases hb _ (List.getElem_mem hj) with hg | hn
      · obtain ⟨x, hx, hok, hxb⟩ := id hg
        refine (Deliver_good p most ks j ks[j] x.m w hG h hk hw0 hl hxb hok.1 hok.2).mono ?_
        rintro e w' ⟨A, c, B, d, rfl, hM, _, hN, hK⟩
        exact ⟨⟨x.m, A, c, B, d⟩, 0, rfl, hM, hstep w' hN hK, .inr ⟨by rw [bytesAt_in hj]; exact hg, x, hx, rfl⟩⟩
      · refine (Deliver_bad p most ks j ks[j] w hG h hk hw0 hl hbd.1 hn).mono ?_
        rintro e w' ⟨rfl, hN, hK⟩
        exact ⟨⟨zeroM, none, 0, none, 0⟩, 6, rfl, zeroM_r _, hstep w' hN hK, .inl (by decide)⟩
  · refine (Deliver_none p most ks i w hG h hi).mono ?_
    rintro e w' ⟨rfl, hB⟩
    exact ⟨⟨zeroM, none, 0, none, 0⟩, 3, rfl, zeroM_r _, NetStep.same h hB, .inl (by decide)⟩
/-- Spoil of a packet that is a message's. -/
theorem Spoil_step (S : List MV) (p : Nat) (most : Int) (ks : List PK) (i n : Int) (w : World) (hG : GOk w) (h : NetAt w p most ks) (hb : ∀ k ∈ ks, GoodS S k.b ∨ NoF k.b) (hg : GoodS S (bytesAt ks i)) :
    Calls Tryz.prog 23 #[.pointer (some ⟨p, 0, none⟩), .int .i64 i, .int .i64 n] w fun e w' => ∃ (code : Int) (ks' : List PK), e = .returned (.int .i64 code) ∧ NetAt w' p most ks' ∧ Kept (NS w p) w w' ∧ ks'.length = ks.length ∧ (∀ k ∈ ks', GoodS S k.b ∨ NoF k.b) ∧ (code ≠ 0 ∨ NoF (bytesAt ks' i)) := by
  rcases int_cases i ks.length with ⟨j, rfl, hj⟩ | hi
  · rw [bytesAt_in hj] at hg
    have hk : ks[j]? = some ks[j] := List.getElem?_eq_getElem hj
    by_cases hn : 0 ≤ n ∧ n < 8 * (ks[j].b.length : Int)
    · obtain ⟨n', rfl⟩ : ∃ n' : Nat, n = n' := ⟨n.toNat, by omega⟩
      have hno : NoF (turnB ks[j].b n') := by
        obtain ⟨x, _, hok, hxb⟩ := hg
        obtain ⟨e, _⟩ := enc_frame hok.1
        rw [e] at hxb
        rw [hxb]
        exact turnB_no _ _ (by rw [← hxb]; omega)
      refine (Spoil_ok p most ks j ks[j] n' w h hk (by omega)).mono ?_
      rintro e w' ⟨rfl, hN, hK⟩
      refine ⟨0, _, rfl, hN, hK, by simp, fun k' hk' => ?_, .inr ?_⟩
      · rcases List.mem_or_eq_of_mem_set hk' with hk' | rfl
        · exact hb k' hk'
        · exact .inr hno
      · rw [bytesAt_in (by simpa using hj), List.getElem_set_self]
        exact hno
    · refine (Spoil_bad p most ks j ks[j] n w hG h hk (by omega)).mono ?_
      rintro e w' ⟨rfl, hB⟩
      exact ⟨2, ks, rfl, h.later hB, Kept.of_below _ hB, rfl, hb, .inl (by decide)⟩
  · rw [bytesAt_out hi] at hg
    exact absurd nil_no (good_not hg)
end Go.Proofs.YteeiacfddjhhkaaGreatDoor
