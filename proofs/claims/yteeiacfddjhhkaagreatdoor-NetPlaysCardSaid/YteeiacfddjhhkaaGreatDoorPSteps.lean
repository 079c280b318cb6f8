/- byroadlaw20.kept and byroadlaw20.awake: the example holds. One byte turned in a frame: what is left is no frame (plain: no Go, no memory). What a net's calls do to its packets, whatever the numbers, sites cut off or not: Move, Hold that fail; Packet; Spoil. -/
import Derived.Test.YteeiacfddjhhkaaGreatDoorSend
import Derived.Test.YteeiacfddjhhkaaGreatDoorTwice
import Derived.Test.YteeiacfddjhhkaaGreatDoorMove
import Derived.Test.YteeiacfddjhhkaaGreatDoorDeliver
import Derived.Test.YteeiacfddjhhkaaGreatDoorOne
import Derived.Test.YteeiacfddjhhkaaGreatDoorApp
import Derived.Test.YteeiacfddjhhkaaGreatDoorNet3
import Derived.StillTailTactics
import Derived.Laws.BitsAllLaws
namespace Go.Proofs.YteeiacfddjhhkaaGreatDoor
open Go.RowKit
set_option maxRecDepth 100000

def keptM (g site : Int) : PMsg := ⟨13, site, 0, g, 0, 0, 0, 0, 0, [], []⟩
def keptV (g site : Int) : MV := ⟨keptM g site, none, 0, none, 0⟩
theorem kept_any (g site : Int) (w : World) : Calls Tryz.prog 27 #[.int .i64 g, .int .i64 site] w fun e w' => e = .returned (.agg #[.int .i64 13, .int .i64 site, .int .i64 0, .int .i64 g, .int .i64 0, .int .i64 0, .int .i64 0, .int .i64 0, .int .i64 0, .slice none 0 0, .slice none 0 0]) ∧ Below w.heap.size w w' := by
  go_enter Tryz.func27, Tryz.ntmps27
  go_wp2_with fail
  have hb := heap_alloc_new w (.cells #[.int .i64 13, .int .i64 site, .int .i64 0, .int .i64 g, .int .i64 0, .int .i64 0, .int .i64 0, .int .i64 0, .int .i64 0, .slice none 0 0, .slice none 0 0] 37)
  have hB := below_alloc (Below.refl _ w) (.cells #[.int .i64 13, .int .i64 site, .int .i64 0, .int .i64 g, .int .i64 0, .int .i64 0, .int .i64 0, .int .i64 0, .int .i64 0, .slice none 0 0, .slice none 0 0] 37)
  generalize w.alloc (.cells #[.int .i64 13, .int .i64 site, .int .i64 0, .int .i64 g, .int .i64 0, .int .i64 0, .int .i64 0, .int .i64 0, .int .i64 0, .slice none 0 0, .slice none 0 0] 37) = W at *
  obtain ⟨r0, r1, r2, r3, r4, r5, r6, r7, r8, r9, r10⟩ := msg_cells hb
  refine bodyPost_ret (v := .agg #[.int .i64 13, .int .i64 site, .int .i64 0, .int .i64 g, .int .i64 0, .int .i64 0, .int .i64 0, .int .i64 0, .int .i64 0, .slice none 0 0, .slice none 0 0]) ?_ rfl ⟨rfl, hB⟩
  simp [results, Tryz.results27, go_sem, *]
theorem keptM_may (g site : Int) (hg : 1 ≤ g ∧ g ≤ 1048576) (hs : 1 ≤ site ∧ site ≤ 3) : mayM (keptM g site) = true := by
  simp [mayM, keptM, knownM, wayM, withinB, nothingM, bareM, checkO, hg, hs]
theorem awake_step {w0 a b : World} {p : Nat} (hB : Below w0.heap.size w0 a) (hp : w0.heap.size ≤ p) (hK : Kept (NS a p) a b) : Below w0.heap.size w0 b :=
  hB.trans (hK.to_below hB.size (fun k h => Nat.le_trans hp h.1))
def kp1 : PK := ⟨encM (keptM 1 1), 1, 0⟩
def kp2 : PK := ⟨encM (keptM 2 2), 2, 0⟩
theorem kept_sent : sendN noCut 9 [] [keptM 1 1, keptM 2 2] = [kp1, kp2] := by
  have h1 := keptM_may 1 1 (by decide) (by decide)
  have h2 := keptM_may 2 2 (by decide) (by decide)
  have a : send1 noCut 9 [] (keptM 1 1) = [kp1] := by unfold send1; rw [if_pos ⟨h1, by decide, by decide⟩]; rfl
  have b : send1 noCut 9 [kp1] (keptM 2 2) = [kp1, kp2] := by unfold send1; rw [if_pos ⟨h2, by decide, by decide⟩]; rfl
  show send1 noCut 9 (send1 noCut 9 [] (keptM 1 1)) (keptM 2 2) = _
  rw [a, b]
theorem keptV_r (g site : Int) (w : World) (hg : i64ok g) (hs : i64ok site) : MsgR w (keptV g site).m (keptV g site).A (keptV g site).c (keptV g site).B (keptV g site).d :=
  ⟨RowAt.nil _ _, RowAt.nil _ _, by simp [keptV, keptM], by simp [keptV, keptM], by simp [keptV, keptM], by simp [keptV, keptM], by simp [keptV, keptM], by
    refine ⟨?_, hs, ?_, hg, ?_, ?_, ?_, ?_, ?_⟩ <;> simp [keptV, keptM, i64ok]⟩
theorem awake_any (w : World) (hG : GOk w) : Calls Tryz.prog 15 #[] w fun e w' => e = .returned (.bool true) ∧ Below w.heap.size w w' := by
  have hGG := Lib.hid hG
  clear hG
  go_enter Tryz.func15, Tryz.ntmps15
  go_wp2_with fail
  refine (new_any 9 _ (by decide)).mono ?_
  rintro e w1 ⟨p, rfl, hN_, hp, hB_⟩
  have hN := Lib.hid hN_
  have hB1 := Lib.hid hB_
  clear hN_ hB_
  go_wp2_with fail
  refine (kept_any 1 1 _).mono ?_
  rintro e w2 ⟨rfl, hB_⟩
  have hB2 := Lib.hid hB_
  clear hB_
  go_wp2_with fail
  refine (kept_any 2 2 _).mono ?_
  rintro e w3 ⟨rfl, hB_⟩
  have hB3 := Lib.hid (bnext hB2.out hB_)
  clear hB_
  go_wp2_with fail
  have hrow : RowAt (w3.alloc (.cells #[.int .i64 13, .int .i64 1, .int .i64 0, .int .i64 1, .int .i64 0, .int .i64 0, .int .i64 0, .int .i64 0, .int .i64 0, .slice none 0 0, .slice none 0 0, .int .i64 13, .int .i64 2, .int .i64 0, .int .i64 2, .int .i64 0, .int .i64 0, .int .i64 0, .int .i64 0, .int .i64 0, .slice none 0 0, .slice none 0 0] 37)) (some ⟨w3.heap.size, 0, none⟩) (mvsC [keptV 1 1, keptV 2 2]) := RowAt.made rfl
  have hb4 := heap_alloc_new w3 (.cells #[.int .i64 13, .int .i64 1, .int .i64 0, .int .i64 1, .int .i64 0, .int .i64 0, .int .i64 0, .int .i64 0, .int .i64 0, .slice none 0 0, .slice none 0 0, .int .i64 13, .int .i64 2, .int .i64 0, .int .i64 2, .int .i64 0, .int .i64 0, .int .i64 0, .int .i64 0, .int .i64 0, .slice none 0 0, .slice none 0 0] 37)
  have hB4 := Lib.hid (below_alloc hB3.out (.cells #[.int .i64 13, .int .i64 1, .int .i64 0, .int .i64 1, .int .i64 0, .int .i64 0, .int .i64 0, .int .i64 0, .int .i64 0, .slice none 0 0, .slice none 0 0, .int .i64 13, .int .i64 2, .int .i64 0, .int .i64 2, .int .i64 0, .int .i64 0, .int .i64 0, .int .i64 0, .int .i64 0, .slice none 0 0, .slice none 0 0] 37))
  generalize w3.alloc (.cells #[.int .i64 13, .int .i64 1, .int .i64 0, .int .i64 1, .int .i64 0, .int .i64 0, .int .i64 0, .int .i64 0, .int .i64 0, .slice none 0 0, .slice none 0 0, .int .i64 13, .int .i64 2, .int .i64 0, .int .i64 2, .int .i64 0, .int .i64 0, .int .i64 0, .int .i64 0, .int .i64 0, .slice none 0 0, .slice none 0 0] 37) = w4 at *
  have hB04 := Lib.hid (bnext hB1.out hB4.out)
  have hS := Send_any p 9 [] [keptV 1 1, keptV 2 2] (some ⟨w3.heap.size, 0, none⟩) 2 w4 (hGG.out.below hB04.out) (hN.out.later hB4.out) hrow
    (fun ad h => by
      cases h
      rintro ⟨_, cur, T, fr, hb, hT⟩
      rw [hb4] at hb
      simp only [Option.some.injEq, Obj.cells.injEq] at hb
      obtain ⟨_, rfl, _⟩ := hb
      simp at hT)
    (fun x hx => by
      simp only [List.mem_cons, List.not_mem_nil, or_false] at hx
      rcases hx with rfl | rfl
      · exact ⟨keptV_r 1 1 w4 (by simp [i64ok]) (by simp [i64ok]), .inl rfl, .inl rfl⟩
      · exact ⟨keptV_r 2 2 w4 (by simp [i64ok]) (by simp [i64ok]), .inl rfl, .inl rfl⟩)
    (by decide)
  rw [show ([keptV 1 1, keptV 2 2].map (·.m)) = [keptM 1 1, keptM 2 2] from rfl, kept_sent, show (([kp1, kp2].length : Int) - ([] : List PK).length) = 2 from rfl] at hS
  have hSH := Lib.hid hS
  clear hS hrow hb4
  refine hSH.out.mono ?_
  rintro e w5 ⟨rfl, hN_, hK_⟩
  have hpp : Hid (w.heap.size ≤ p) := Lib.hid (Nat.le_of_lt hp)
  have hN5 : Hid (NetAt noCut w5 p 9 [kp1, kp2]) := Lib.hid hN_
  have hB5 := Lib.hid (awake_step hB04.out hpp.out hK_)
  clear hN_ hK_
  go_wp2_with fail
  refine (Twice_ok p 9 [kp1, kp2] 0 kp1 _ hN5.out rfl (by decide) (by decide)).mono ?_
  rintro e w6 ⟨rfl, hN_, hK_⟩
  have hN6 : Hid (NetAt noCut w6 p 9 ([kp1, kp2, twiceK kp1])) := Lib.hid hN_
  have hB6 := Lib.hid (awake_step hB5.out hpp.out hK_)
  clear hN_ hK_
  go_wp2_with fail
  refine (Move_ok p 9 [kp1, kp2, twiceK kp1] 2 0 (twiceK kp1) _ hN6.out rfl (by decide) (by decide)).mono ?_
  rintro e w7 ⟨rfl, hN_, hK_⟩
  have hN7 : Hid (NetAt noCut w7 p 9 ([twiceK kp1, kp1, kp2])) := Lib.hid hN_
  have hB7 := Lib.hid (awake_step hB6.out hpp.out hK_)
  clear hN_ hK_
  go_wp2_with fail
  refine (Drop_ok p 9 [twiceK kp1, kp1, kp2] 1 kp1 _ hN7.out rfl (by decide)).mono ?_
  rintro e w8 ⟨rfl, hN_, hK_⟩
  have hN8 : Hid (NetAt noCut w8 p 9 ([twiceK kp1, kp2])) := Lib.hid hN_
  have hB8 := Lib.hid (awake_step hB7.out hpp.out hK_)
  clear hN_ hK_
  go_wp2_with fail
  refine (Hold_ok p 9 [twiceK kp1, kp2] 0 (twiceK kp1) 2 _ hN8.out rfl (by decide)).mono ?_
  rintro e w9 ⟨rfl, hN_, hK_⟩
  have hN9 : Hid (NetAt noCut w9 p 9 ([{ twiceK kp1 with waits := 2 }, kp2])) := Lib.hid hN_
  have hB9 := Lib.hid (awake_step hB8.out hpp.out hK_)
  clear hN_ hK_
  go_wp2_with fail
  refine (Deliver_busy p 9 [{ twiceK kp1 with waits := 2 }, kp2] 0 { twiceK kp1 with waits := 2 } _ (hGG.out.below hB9.out) hN9.out rfl (by decide)).mono ?_
  rintro e w10 ⟨rfl, hB_⟩
  have hN10 := Lib.hid (hN9.out.later hB_)
  have hB10 := Lib.hid (bnext hB9.out hB_)
  clear hB_
  simp only [zeroV]
  go_wp2_with fail
  have hBz := below_alloc (Below.refl _ w10) (.cells #[.int .i64 0, .int .i64 0, .int .i64 0, .int .i64 0, .int .i64 0, .int .i64 0, .int .i64 0, .int .i64 0, .int .i64 0, .slice none 0 0, .slice none 0 0] 37)
  have hN11 := Lib.hid (hN10.out.later hBz)
  have hB11 := Lib.hid (bnext hB10.out hBz)
  clear hBz
  generalize w10.alloc (.cells #[.int .i64 0, .int .i64 0, .int .i64 0, .int .i64 0, .int .i64 0, .int .i64 0, .int .i64 0, .int .i64 0, .int .i64 0, .slice none 0 0, .slice none 0 0] 37) = w11 at *
  refine (Tick_net p 9 [{ twiceK kp1 with waits := 2 }, kp2] _ hN11.out (by decide)).mono ?_
  rintro e w12 ⟨rfl, hN_, hK_⟩
  have hN12 : Hid (NetAt noCut w12 p 9 [{ twiceK kp1 with waits := 1 }, kp2]) := Lib.hid hN_
  have hB12 := Lib.hid (awake_step hB11.out hpp.out hK_)
  clear hN_ hK_
  go_wp2_with fail
  refine (Tick_net p 9 [{ twiceK kp1 with waits := 1 }, kp2] _ hN12.out (by decide)).mono ?_
  rintro e w13 ⟨rfl, hN_, hK_⟩
  have hN13 : Hid (NetAt noCut w13 p 9 [{ twiceK kp1 with waits := 0 }, kp2]) := Lib.hid hN_
  have hB13 := Lib.hid (awake_step hB12.out hpp.out hK_)
  clear hN_ hK_
  go_wp2_with fail
  refine (Deliver_good p 9 [{ twiceK kp1 with waits := 0 }, kp2] 0 { twiceK kp1 with waits := 0 } (keptM 1 1) _ (hGG.out.below hB13.out) hN13.out rfl rfl rfl (show _ ∧ _ from ⟨by decide, by decide⟩) (by decide) rfl (keptM_may 1 1 (by decide) (by decide)) (by simp [keptM, i64ok])).mono ?_
  rintro e w14 ⟨A12, c12, B12, d12, rfl, _, _, hN_, hK_⟩
  have hN14 : Hid (NetAt noCut w14 p 9 [kp2]) := Lib.hid hN_
  have hB14 := Lib.hid (awake_step hB13.out hpp.out hK_)
  clear hN_ hK_
  simp only [msgA, keptM, List.length_nil]
  have hBz := below_alloc (Below.refl _ w14) (.cells #[.int .i64 13, .int .i64 1, .int .i64 0, .int .i64 1, .int .i64 0, .int .i64 0, .int .i64 0, .int .i64 0, .int .i64 0, .slice A12 0 c12, .slice B12 0 d12] 37)
  have hb := heap_alloc_new w14 (.cells #[.int .i64 13, .int .i64 1, .int .i64 0, .int .i64 1, .int .i64 0, .int .i64 0, .int .i64 0, .int .i64 0, .int .i64 0, .slice A12 0 c12, .slice B12 0 d12] 37)
  have hN15 := Lib.hid (hN14.out.later hBz)
  have hB15 := Lib.hid (bnext hB14.out hBz)
  have y3 : (w14.alloc (.cells #[.int .i64 13, .int .i64 1, .int .i64 0, .int .i64 1, .int .i64 0, .int .i64 0, .int .i64 0, .int .i64 0, .int .i64 0, .slice A12 0 c12, .slice B12 0 d12] 37)).cell? ⟨w14.heap.size, 3, none⟩ = some (.int .i64 1) := by rw [block_cell hb]; rfl
  clear hBz hb
  go_wp2_with fail
  refine (Len_net p 9 [kp2] _ hN15.out).mono ?_
  rintro e w16 ⟨rfl, rfl⟩
  go_wp2_with fail
  go_ret
  exact ⟨rfl, hB15.out⟩
end Go.Proofs.YteeiacfddjhhkaaGreatDoor
namespace Go.Proofs.YteeiacfddjhhkaaGreatDoor

theorem xor_can (a c : Nat) : (a ^^^ c) ^^^ c = a := by rw [Nat.xor_assoc, Nat.xor_self, Nat.xor_zero]
theorem crcBit_inj {a b : Nat} (ha : a < 4294967296) (hb : b < 4294967296) (h : crcBit a = crcBit b) : a = b := by
  have hlt : ∀ x y : Nat, x < 2147483648 → y < 2147483648 → x ^^^ 2197175160 ≠ y := by
    intro x y hx hy he
    have h1 : 2197175160 = x ^^^ y := by rw [← he, ← Nat.xor_assoc, Nat.xor_self, Nat.zero_xor]
    have h2 := Nat.xor_lt_two_pow (n := 31) (x := x) (y := y) (by omega) (by omega)
    omega
  unfold crcBit at h
  by_cases h1 : a % 2 = 1 <;> by_cases h2 : b % 2 = 1
  · rw [if_pos h1, if_pos h2] at h
    have h3 := congrArg (· ^^^ 2197175160) h
    simp only [xor_can] at h3
    omega
  · rw [if_pos h1, if_neg h2] at h
    exact absurd h (hlt _ _ (by omega) (by omega))
  · rw [if_neg h1, if_pos h2] at h
    exact absurd h.symm (hlt _ _ (by omega) (by omega))
  · rw [if_neg h1, if_neg h2] at h
    omega
theorem crcBits_inj (k : Nat) {a b : Nat} (ha : a < 4294967296) (hb : b < 4294967296) (h : crcBits a k = crcBits b k) : a = b := by
  induction k with
  | zero => exact h
  | succ k ih => exact ih (crcBit_inj (crcBits_lt k ha) (crcBits_lt k hb) h)
theorem crcByte_inj {s t : Nat} (c d : UInt8) (hs : s < 4294967296) (ht : t < 4294967296) (h : crcByte s c = crcByte t d) : s ^^^ c.toNat = t ^^^ d.toNat :=
  crcBits_inj 8 (crcXor_lt c hs) (crcXor_lt d ht) h
theorem crcAll_inj (bs : List UInt8) : ∀ {s t : Nat}, s < 4294967296 → t < 4294967296 → crcAll s bs = crcAll t bs → s = t := by
  induction bs with
  | nil => intro s t _ _ h; exact h
  | cons c r ih =>
    intro s t hs ht h
    have h1 := crcByte_inj c c hs ht (ih (crcByte_lt c hs) (crcByte_lt c ht) h)
    have h2 := congrArg (· ^^^ c.toNat) h1
    simpa only [xor_can] using h2
theorem crc_one {s : Nat} (hs : s < 4294967296) (a b : List UInt8) (c d : UInt8) (h : crcAll s (a ++ c :: b) = crcAll s (a ++ d :: b)) : c = d := by
  rw [crcAll_append, crcAll_append] at h
  have ht := crcAll_lt a hs
  have h1 := crcByte_inj c d ht ht (crcAll_inj b (crcByte_lt c ht) (crcByte_lt d ht) h)
  have h2 := congrArg (fun x => x ^^^ crcAll s a) h1
  simp only [Nat.xor_comm (crcAll s a), xor_can] at h2
  exact UInt8.toNat_inj.1 h2
theorem u8of_inj {a b : Nat} (h : UInt8.ofNat a = UInt8.ofNat b) : a % 256 = b % 256 := by
  have := congrArg UInt8.toNat h
  rwa [UInt8.toNat_ofNat', UInt8.toNat_ofNat'] at this
theorem tailB_inj {s t : Nat} (hs : s < 4294967296) (ht : t < 4294967296) (h : tailB s = tailB t) : s = t := by
  simp only [tailB, List.cons.injEq, and_true] at h
  obtain ⟨h1, h2, h3, h4⟩ := h
  have := u8of_inj h1
  have := u8of_inj h2
  have := u8of_inj h3
  have := u8of_inj h4
  omega
theorem crcSum_inj {a b : List UInt8} (h : crcSum a = crcSum b) : crcAll 4294967295 a = crcAll 4294967295 b := by
  unfold crcSum at h
  have h2 := congrArg (fun x => 4294967295 ^^^ x) h
  simp only [← Nat.xor_assoc, Nat.xor_self, Nat.zero_xor] at h2
  exact h2
/-- One place of a frame is another one: it is no frame. -/
theorem wrap_turned (p q x : List UInt8) (k : Nat) (hlen : x.length = (wrapB p).length) (hk : ∀ j, j ≠ k → x[j]? = (wrapB p)[j]?) (hne : x[k]? ≠ (wrapB p)[k]?) : x ≠ wrapB q := by
  rintro rfl
  rw [wrapB_length, wrapB_length] at hlen
  have hl : q.length = p.length := by omega
  have hpq : ∀ r : List UInt8, r.length = p.length → wrapB r = (headB p.length ++ r) ++ tailB (crcSum (headB p.length ++ r)) := fun r hr => by rw [wrapB, hr]
  have hH : (headB p.length).length = 3 := rfl
  rw [hpq p rfl, hpq q hl] at hk hne
  have hPl : (headB p.length ++ p).length = p.length + 3 := by simp [hH]; omega
  have hQl : (headB p.length ++ q).length = p.length + 3 := by simp [hH]; omega
  generalize headB p.length ++ p = P at *
  generalize headB p.length ++ q = Q at *
  by_cases hkn : k < p.length + 3
  · have hT : tailB (crcSum Q) = tailB (crcSum P) := by
      refine List.ext_getElem? fun j => ?_
      have := hk (p.length + 3 + j) (by omega)
      rwa [List.getElem?_append_right (by omega), List.getElem?_append_right (by omega), hPl, hQl, Nat.add_sub_cancel_left] at this
    have hc := crcSum_inj (tailB_inj (crcSum_lt Q) (crcSum_lt P) hT)
    have hPQ : ∀ j, j ≠ k → Q[j]? = P[j]? := by
      intro j hj
      by_cases hjn : j < p.length + 3
      · have := hk j hj
        rwa [List.getElem?_append_left (by omega), List.getElem?_append_left (by omega)] at this
      · rw [List.getElem?_eq_none (by omega), List.getElem?_eq_none (by omega)]
    have eP : P = P.take k ++ P[k] :: P.drop (k + 1) := by rw [← List.drop_eq_getElem_cons (by omega), List.take_append_drop]
    have eQ : Q = P.take k ++ Q[k] :: P.drop (k + 1) := by
      have e1 : Q.take k = P.take k := by
        refine List.ext_getElem? fun j => ?_
        rw [List.getElem?_take, List.getElem?_take]
        split
        · exact hPQ j (by omega)
        · rfl
      have e2 : Q.drop (k + 1) = P.drop (k + 1) := by
        refine List.ext_getElem? fun j => ?_
        rw [List.getElem?_drop, List.getElem?_drop]
        exact hPQ _ (by omega)
      rw [← e1, ← e2, ← List.drop_eq_getElem_cons (by omega), List.take_append_drop]
    have he : Q[k] = P[k] := crc_one (s := 4294967295) (by omega) (P.take k) (P.drop (k + 1)) _ _ (by rw [← eQ, ← eP]; exact hc)
    refine hne ?_
    rw [List.getElem?_append_left (by omega), List.getElem?_append_left (by omega), List.getElem?_eq_getElem (by omega), List.getElem?_eq_getElem (by omega), he]
  · have hPQ : Q = P := by
      refine List.ext_getElem? fun j => ?_
      by_cases hjn : j < p.length + 3
      · have := hk j (by omega)
        rwa [List.getElem?_append_left (by omega), List.getElem?_append_left (by omega)] at this
      · rw [List.getElem?_eq_none (by omega), List.getElem?_eq_none (by omega)]
    exact hne (by rw [hPQ])
/-- A bit of a byte turned: another byte. -/
theorem turn_ne (b : UInt8) (k : Nat) (hk : k < 8) : b ^^^ UInt8.ofNat (2 ^ k) ≠ b := by
  intro h
  have h1 := congrArg (fun x => b ^^^ x) h
  simp only [← UInt8.xor_assoc, UInt8.xor_self, UInt8.zero_xor] at h1
  have h2 := congrArg UInt8.toNat h1
  rw [UInt8.toNat_ofNat', Nat.mod_eq_of_lt (by have := Nat.pow_lt_pow_right (a := 2) (by decide) hk; simpa using this)] at h2
  have := Nat.pow_pos (n := k) (show 0 < 2 by decide)
  simp at h2
end Go.Proofs.YteeiacfddjhhkaaGreatDoor
namespace Go.Proofs.YteeiacfddjhhkaaGreatDoor
open Go.RowKit
set_option maxRecDepth 100000
variable {cz : Cuts}
theorem int_cases (i : Int) (n : Nat) : (∃ j : Nat, i = j ∧ j < n) ∨ (i < 0 ∨ (n : Int) ≤ i) := by
  by_cases h0 : i < 0
  · exact .inr (.inl h0)
  · by_cases h1 : (n : Int) ≤ i
    · exact .inr (.inr h1)
    · exact .inl ⟨i.toNat, by omega, by omega⟩
theorem Move_bad (p : Nat) (most : Int) (ks : List PK) (i : Nat) (t : Int) (w : World) (hG : GOk w) (h : NetAt cz w p most ks) (hi : i < ks.length) (ht : t < 0 ∨ (ks.length : Int) ≤ t) :
    Calls Tryz.prog 21 #[.pointer (some ⟨p, 0, none⟩), .int .i64 i, .int .i64 t] w fun e w' => e = .returned (.int .i64 2) ∧ Below w.heap.size w w' := by
  have hGG := Lib.hid hG
  have hN := Lib.hid h
  have hT := Lib.hid ht
  clear hG h ht
  go_enter Tryz.func21, Tryz.ntmps21
  go_wp2_with fail
  refine (at_ok p most ks i _ hN.out hi).mono ?_
  rintro e w ⟨rfl, rfl⟩
  go_wp2_with fail
  refine (at_none p most ks t _ hN.out hT.out).mono ?_
  rintro e w1 ⟨T, b, rfl, hE_, hB_⟩
  have hB1 := Lib.hid hB_
  clear hE_ hB_
  go_wp2_with fail
  refine (new_err 2 (by decide) _).mono ?_
  rintro e w2 ⟨T2, b2, rfl, hE_, hB_⟩
  have hE2 := Lib.hid hE_
  have hB2 := Lib.hid (bnext hB1.out hB_)
  clear hE_ hB_
  go_wp2_with fail
  refine (at_any t _ 2 _ hE2.out).mono ?_
  rintro e w3 ⟨T3, b3, rfl, hE_, hB_⟩
  have hE3 := Lib.hid hE_
  have hB3 := Lib.hid (bnext hB2.out hB_)
  clear hE_ hB_
  go_wp2_with fail
  refine (code_err _ 2 _ hE3.out (hGG.out.below hB3.out)).mono ?_
  rintro e w4 ⟨rfl, hB_⟩
  have hB4 := Lib.hid (bnext hB3.out hB_)
  clear hB_
  go_wp2_with fail
  go_ret
  exact ⟨rfl, hB4.out⟩
theorem Hold_bad (p : Nat) (most : Int) (ks : List PK) (i : Nat) (t : Int) (w : World) (hG : GOk w) (h : NetAt cz w p most ks) (hi : i < ks.length) (ht : t < 0 ∨ 1000 < t) :
    Calls Tryz.prog 22 #[.pointer (some ⟨p, 0, none⟩), .int .i64 i, .int .i64 t] w fun e w' => e = .returned (.int .i64 2) ∧ Below w.heap.size w w' := by
  have hGG := Lib.hid hG
  have hN := Lib.hid h
  clear hG h
  by_cases h0 : t < 0
  · have d1 : decide (t < 0) = true := by simpa using h0
    clear ht h0
    go_enter Tryz.func22, Tryz.ntmps22
    go_wp2_with fail
    refine (at_ok p most ks i _ hN.out hi).mono ?_
    rintro e w ⟨rfl, rfl⟩
    go_wp2_with fail
    refine (new_err 2 (by decide) _).mono ?_
    rintro e w2 ⟨T2, b2, rfl, hE_, hB_⟩
    have hE2 := Lib.hid hE_
    have hB2 := Lib.hid hB_
    clear hE_ hB_
    go_wp2_with fail
    refine (bound_any 1000 t _ 2 _ hE2.out).mono ?_
    rintro e w3 ⟨T3, b3, rfl, hE_, hB_⟩
    have hE3 := Lib.hid hE_
    have hB3 := Lib.hid (bnext hB2.out hB_)
    clear hE_ hB_
    go_wp2_with fail
    refine (code_err _ 2 _ hE3.out (hGG.out.below hB3.out)).mono ?_
    rintro e w4 ⟨rfl, hB_⟩
    have hB4 := Lib.hid (bnext hB3.out hB_)
    clear hB_
    go_wp2_with fail
    go_ret
    exact ⟨rfl, hB4.out⟩
  · have d1 : decide (t < 0) = false := by simpa using h0
    have d2 : decide (1000 < t) = true := by simp; omega
    clear ht h0
    go_enter Tryz.func22, Tryz.ntmps22
    go_wp2_with fail
    refine (at_ok p most ks i _ hN.out hi).mono ?_
    rintro e w ⟨rfl, rfl⟩
    go_wp2_with fail
    refine (new_err 2 (by decide) _).mono ?_
    rintro e w2 ⟨T2, b2, rfl, hE_, hB_⟩
    have hE2 := Lib.hid hE_
    have hB2 := Lib.hid hB_
    clear hE_ hB_
    go_wp2_with fail
    refine (bound_any 1000 t _ 2 _ hE2.out).mono ?_
    rintro e w3 ⟨T3, b3, rfl, hE_, hB_⟩
    have hE3 := Lib.hid hE_
    have hB3 := Lib.hid (bnext hB2.out hB_)
    clear hE_ hB_
    go_wp2_with fail
    refine (code_err _ 2 _ hE3.out (hGG.out.below hB3.out)).mono ?_
    rintro e w4 ⟨rfl, hB_⟩
    have hB4 := Lib.hid (bnext hB3.out hB_)
    clear hB_
    go_wp2_with fail
    go_ret
    exact ⟨rfl, hB4.out⟩
/-- The bytes of a packet, none where there is none. -/
def bytesAt (ks : List PK) (i : Int) : List UInt8 := if 0 ≤ i then ((ks[i.toNat]?).map (·.b)).getD [] else []
theorem bytesAt_in {ks : List PK} {j : Nat} (hj : j < ks.length) : bytesAt ks j = ks[j].b := by
  unfold bytesAt
  rw [if_pos (by omega), Int.toNat_natCast, List.getElem?_eq_getElem hj]
  rfl
theorem bytesAt_out {ks : List PK} {i : Int} (h : i < 0 ∨ (ks.length : Int) ≤ i) : bytesAt ks i = [] := by
  unfold bytesAt
  split
  · rw [List.getElem?_eq_none (by omega)]; rfl
  · rfl
theorem Packet_any (p : Nat) (most : Int) (ks : List PK) (i : Int) (w : World) (h : NetAt cz w p most ks) :
    Calls Tryz.prog 18 #[.pointer (some ⟨p, 0, none⟩), .int .i64 i] w fun e w' => ∃ A c, e = .returned (.slice A (bytesAt ks i).length c) ∧ RB w' (.slice A (bytesAt ks i).length c) (bytesAt ks i) ∧ Below w.heap.size w w' := by
  rcases int_cases i ks.length with ⟨j, rfl, hj⟩ | hi
  · have hk : ks[j]? = some ks[j] := List.getElem?_eq_getElem hj
    have hN := Lib.hid h
    obtain ⟨g, c, mb, mk, vs, v, h1, h2, h3, h4, h5, h6, hv, hov⟩ := h.row hk
    have x1 : w.cell? ⟨p, 1, none⟩ = some (.slice (some ⟨g, 0, none⟩) ks.length c) := by rw [block_cell h1]; rfl
    have y0 : w.cell? ⟨g, j * 3, none⟩ = some v := by rw [h4.cellAt _ (by omega)]; exact (pksC_get vs ks j _ _ hv hk).1
    have hbl := (h6 j v _ hv hk).2.1
    obtain ⟨A, d, rfl⟩ := own_slice hov
    have hO := Lib.hid (RB.of_own hov)
    have hbk : Hid (ks[j].b.length ≤ 1000000) := Lib.hid (by omega)
    rw [bytesAt_in hj]
    clear h h1 h2 h3 h4 h5 h6 hv hov hk hbl
    generalize ks[j].b = bs at *
    go_enter Tryz.func18, Tryz.ntmps18
    go_wp2_with fail
    refine (at_ok p most ks j _ hN.out hj).mono ?_
    rintro e w ⟨rfl, rfl⟩
    go_wp2_with fail
    refine (clone_any _ bs _ hO.out hbk.out).mono ?_
    rintro e w1 ⟨A1, d1, rfl, hO1_, hB1_⟩
    have hO1 := Lib.hid hO1_
    have hB1 := Lib.hid hB1_
    clear hO1_ hB1_
    go_wp2_with fail
    go_ret
    exact ⟨A1, d1, rfl, RB.of_own hO1.out, hB1.out⟩
  · rw [bytesAt_out hi]
    refine (Packet_none p most ks i w h hi).mono ?_
    rintro e w' ⟨rfl, hB⟩
    exact ⟨none, 0, rfl, RB.of_own (OB.nil w' 0), hB⟩

/-- A bit turned. -/
def turnB (bs : List UInt8) (n : Nat) : List UInt8 := bs.set (n / 8) ((bs[n / 8]?.getD 0) ^^^ UInt8.ofNat (2 ^ (n % 8)))
theorem turnB_len (bs : List UInt8) (n : Nat) : (turnB bs n).length = bs.length := by simp [turnB]
theorem pksC_set (vs : List Value) (ks : List PK) (i : Nat) (v : Value) (k : PK) (b : List UInt8) (hl : vs.length = ks.length) (hk : ks[i]? = some k) : (pksC vs ks).set (i * 3) v = pksC (vs.set i v) (ks.set i { k with b := b }) := by
  induction vs generalizing ks i with
  | nil =>
    cases ks with
    | nil => simp at hk
    | cons => simp at hl
  | cons v0 vs ih =>
    cases ks with
    | nil => simp at hl
    | cons k0 ks =>
      cases i with
      | zero =>
        simp at hk
        subst hk
        rfl
      | succ i =>
        have h := ih ks i (by simpa using hl) (by simpa using hk)
        rw [List.set_cons_succ, List.set_cons_succ, pksC_cons, pksC_cons, ← h]
        have e : (i + 1) * 3 = i * 3 + 3 := by omega
        rw [e]
        rfl
/-- Another slice of bytes is set into a packet. -/
theorem NetAt.turned {w w1 : World} {p : Nat} {most : Int} {ks : List PK} {g c mb : Nat} {mk : MapIs cz} {vs : List Value} {i : Nat} {k : PK} {v1 : Value} {b1 : List UInt8}
    (h1 : w.heap[p]? = some (.cells #[.int .i64 most, .slice (some ⟨g, 0, none⟩) ks.length c, .map (some mb)] 71 (0, 0))) (h2 : w.heap[mb]? = some (.map mk.es mk.ck)) (h3 : mb + 1 = p) (h4 : w.ownsRow (p + 1) 77 3 (.slice (some ⟨g, 0, none⟩) ks.length c) ks.length (pksC vs ks)) (h5 : vs.length = ks.length)
    (h6 : ∀ (i : Nat) (v : Value) (k : PK), vs[i]? = some v → ks[i]? = some k → OB w (p + 1) v k.b ∧ k.b.length ≤ 100000 ∧ 0 ≤ k.waits ∧ k.waits ≤ 1000) (hk : ks[i]? = some k) (hB : Below w.heap.size w w1) (hv : OB w1 (p + 1) v1 b1) (hbl : b1.length ≤ 100000) :
    NetAt cz (w1.setCell ⟨g, i * 3, none⟩ v1) p most (ks.set i { k with b := b1 }) ∧ Kept (NS w p) w (w1.setCell ⟨g, i * 3, none⟩ v1) := by
  have hg := own_ge h4 g rfl
  have h41 := own_below h4 hB
  obtain ⟨ho, _⟩ := h41.stored (i * 3) v1
  rw [pksC_set vs ks i v1 k b1 h5 hk] at ho
  obtain ⟨cur, hcur⟩ := own_type h41 (g := g) rfl
  have hfar : ∀ j, j ≠ g → (w1.setCell ⟨g, i * 3, none⟩ v1).heap[j]? = w1.heap[j]? := fun j hj => Below.heap_setCell _ _ _ _ (by simpa using hj)
  have kB : Kept (NS w1 p) w1 (w1.setCell ⟨g, i * 3, none⟩ v1) := Kept.setCell (p := ⟨g, i * 3, none⟩) (Kept.refl _ w1) (.inl ⟨by show p ≤ g; omega, cur, _, _, hcur, .inl rfl⟩) _
  refine ⟨⟨some ⟨g, 0, none⟩, c, mb, mk, vs.set i v1, ?_, ?_, h3, ?_, ?_, ?_⟩, KeptN_trans (Kept.of_below _ hB) kB⟩
  · rw [List.length_set, hfar p (by omega)]; exact block_below hB h1
  · rw [hfar mb (by omega)]; exact block_below hB h2
  · rw [List.length_set]; exact ho
  · rw [List.length_set, List.length_set]; exact h5
  · intro j v k' hv' hk'
    by_cases hij : i = j
    · subst hij
      have hil : i < vs.length := by rw [h5]; exact (List.getElem?_eq_some_iff.1 hk).1
      rw [List.getElem?_set_self hil] at hv'
      rw [List.getElem?_set_self (by rw [← h5]; exact hil)] at hk'
      cases hv'
      cases hk'
      obtain ⟨_, a2⟩ := h6 i vs[i] k (List.getElem?_eq_getElem hil) hk
      exact ⟨hv.keptN kB, hbl, a2.2⟩
    · rw [List.getElem?_set_ne hij] at hv' hk'
      obtain ⟨a1, a2⟩ := h6 j v k' hv' hk'
      exact ⟨(a1.below hB).keptN kB, a2⟩
theorem u8s_set (bs : List UInt8) (j : Nat) (b : UInt8) : u8s (bs.set j b) = (u8s bs).set j (.int .u8 (b.toNat : Int)) := by simp [u8s, List.map_set]
set_option maxHeartbeats 1000000 in
theorem Spoil_ok (p : Nat) (most : Int) (ks : List PK) (i : Nat) (k : PK) (n : Nat) (w : World) (h : NetAt cz w p most ks) (hk : ks[i]? = some k) (hn : n < 8 * k.b.length) :
    Calls Tryz.prog 23 #[.pointer (some ⟨p, 0, none⟩), .int .i64 i, .int .i64 n] w fun e w' => e = .returned (.int .i64 0) ∧ NetAt cz w' p most (ks.set i { k with b := turnB k.b n }) ∧ Kept (NS w p) w w' := by
  have hi : i < ks.length := (List.getElem?_eq_some_iff.1 hk).1
  have hN := Lib.hid h
  obtain ⟨g, c, mb, mk, vs, v, h1, h2, h3, h4, h5, h6, hv, hov⟩ := h.row hk
  have x1 : w.cell? ⟨p, 1, none⟩ = some (.slice (some ⟨g, 0, none⟩) ks.length c) := by rw [block_cell h1]; rfl
  have y0 : w.cell? ⟨g, i * 3, none⟩ = some v := by rw [h4.cellAt _ (by omega)]; exact (pksC_get vs ks i _ k hv hk).1
  have hbl := (h6 i v k hv hk).2.1
  obtain ⟨A, d, rfl⟩ := own_slice hov
  have hH := Lib.hid (And.intro h1 (And.intro h2 (And.intro h3 (And.intro h4 (And.intro h5 (And.intro h6 (And.intro hv (And.intro hov hk))))))))
  clear h h1 h2 h3 h4 h5 h6 hv hov hk
  obtain ⟨bs, hbs⟩ : ∃ bs, bs = k.b := ⟨_, rfl⟩
  rw [← hbs] at hn hbl y0 ⊢
  have hBS := Lib.hid hbs
  clear hbs
  have d1 : decide ((n : Int) < 0) = false := by simp
  have d2 : decide ((8 : Int) * bs.length ≤ n) = false := by simp; omega
  have hRb : Hid (RB w (.slice A bs.length d) bs) := Lib.hid (by rw [hBS.out]; exact RB.of_own hH.out.2.2.2.2.2.2.2.1)
  have hbk : Hid (bs.length ≤ 1000000) := Lib.hid (by omega)
  go_enter Tryz.func23, Tryz.ntmps23
  go_wp2_with fail
  refine (at_ok p most ks i _ hN.out hi).mono ?_
  rintro e w ⟨rfl, rfl⟩
  go_wp2_with fail
  refine (clone_any _ bs _ hRb.out hbk.out).mono ?_
  rintro e w1 ⟨A1, d3, rfl, hO1_, hB1_⟩
  have hO1 := Lib.hid hO1_
  have hB1 := Lib.hid hB1_
  go_wp2_with fail
  clear hO1_ hB1_
  have hlt : n / 8 < bs.length := by omega
  obtain ⟨b1, rfl⟩ : ∃ b1, A1 = some ⟨b1, 0, none⟩ := by
    rcases hO1.out.2 with ⟨_, h'⟩ | ⟨g', cap', cur, h', _⟩
    · omega
    · cases h'
      exact ⟨_, rfl⟩
  have hpl : Hid (p < w.heap.size) := Lib.hid (by have := hH.out.1; exact (Array.getElem?_eq_some_iff.1 this).1)
  obtain ⟨b0, hb0_⟩ : ∃ b0, bs[n / 8]? = some b0 := ⟨_, List.getElem?_eq_getElem hlt⟩
  have hb0 := Lib.hid hb0_
  have c0 : w1.cell? ⟨b1, n / 8, none⟩ = some (.int .u8 (b0.toNat : Int)) := by
    have := hO1.out.cellAt (n / 8) (by omega)
    rw [this]
    simp [u8s, hb0_]
  have f0 : w1.frozen? ⟨b1, n / 8, none⟩ = false := hO1.out.frozenAt _
  clear hb0_
  have hq : Int.tdiv (n : Int) 8 = ((n / 8 : Nat) : Int) := rfl
  have hr : Int.tmod (n : Int) 8 = ((n % 8 : Nat) : Int) := rfl
  have hq2 : (n : Int) / 8 = ((n / 8 : Nat) : Int) := rfl
  have hr2 : (n : Int) % 8 = ((n % 8 : Nat) : Int) := rfl
  obtain ⟨t, ht⟩ : ∃ t, t = n % 8 := ⟨_, rfl⟩
  obtain ⟨q, hqq⟩ : ∃ q, q = n / 8 := ⟨_, rfl⟩
  have hT := Lib.hid ht
  have hQ := Lib.hid hqq
  rw [← hqq] at hq hq2 c0 f0 hlt
  rw [← ht] at hr hr2
  have ht8 : t < 8 := by omega
  clear ht hqq
  have c1 : w1.drew.cell? ⟨b1, q, none⟩ = some (.int .u8 (b0.toNat : Int)) := c0
  have f1 : w1.drew.frozen? ⟨b1, q, none⟩ = false := f0
  have hx8 : ∃ z : Nat, z = 2 ^ t ∧ z < 256 := ⟨_, rfl, by have := Nat.pow_lt_pow_right (a := 2) (by decide) ht8; simpa using this⟩
  obtain ⟨z, hz, hz2⟩ := hx8
  have hwq : IntKind.i64.wrap (q : Int) = q := by rw [IntKind.wrap_i64]; omega
  have hz3 : (2 : Int) ^ t = (z : Int) := by rw [hz]; norm_cast
  have hwz : IntKind.u8.wrap (z : Int) = z := by rw [IntKind.wrap_u8]; omega
  have hsh : Op.shift .shl .u8 1 .i64 (t : Int) = pure (.int .u8 (z : Int)) := by rw [shift_shl _ _ _ _ (by omega) (by simp [IntKind.bits]; omega), Int.toNat_natCast, Int.one_mul, hz3, hwz]
  have hZ := Lib.hid hz
  clear hz hz3 hwz
  have hbx : bits .xor .u8 (b0.toNat : Int) (z : Int) = (((b0.toNat ^^^ z : Nat)) : Int) := u8_xor_nat _ _ b0.toNat_lt hz2
  go_still_tail 10, (by kernel_rfl)
  change wpList _ _ _ _ _ w1.drew
  have x1d : w1.drew.cell? ⟨p, 1, none⟩ = some (.slice (some ⟨g, 0, none⟩) ks.length c) := ((hB1.out.cell (p := ⟨p, 1, none⟩) hpl.out).trans x1)
  have hgl : Hid (g < w.heap.size) := Lib.hid (World.block_lt_of_cell? w ⟨g, i * 3, none⟩ y0)
  have y0d : w1.drew.cell? ⟨g, i * 3, none⟩ = some (.slice A bs.length d) := ((hB1.out.cell (p := ⟨g, i * 3, none⟩) hgl.out).trans y0)
  have z0d : w1.drew.frozen? ⟨g, i * 3, none⟩ = false := (hB1.out.frozen (p := ⟨g, i * 3, none⟩) hgl.out).trans (hH.out.2.2.2.1.frozenAt _)
  have hBd : Hid (Below w.heap.size w w1.drew) := Lib.hid (hB1.out.drew)
  have hOd : Hid (OB w1.drew w.heap.size (.slice (some ⟨b1, 0, none⟩) bs.length d3) bs) := Lib.hid hO1.out
  generalize w1.drew = wd at *
  have hge : w.heap.size ≤ b1 := own_ge hOd.out b1 rfl
  have n1 : ¬ p = b1 := by have := hpl.out; omega
  have n2 : ¬ b1 = p := by have := hpl.out; omega
  have n3 : ¬ g = b1 := by have := hgl.out; omega
  have n4 : ¬ b1 = g := by have := hgl.out; omega
  go_wp2_with fail
  have hzz : (2 : Int) ^ t % 256 = (z : Int) := by
    have h1 : (2 : Int) ^ t = (z : Int) := by rw [hZ.out]; norm_cast
    rw [h1]; omega
  rw [hzz, hbx]
  obtain ⟨ho, _⟩ := hOd.out.stored q (.int .u8 ((b0.toNat ^^^ z : Nat) : Int))
  have htn : ((b0 ^^^ UInt8.ofNat (2 ^ (n % 8))).toNat : Int) = ((b0.toNat ^^^ z : Nat) : Int) := by
    rw [UInt8.toNat_xor, UInt8.toNat_ofNat', ← hT.out, ← hZ.out, Nat.mod_eq_of_lt (by simpa using hz2)]
  have ht : u8s (turnB bs n) = (u8s bs).set q (.int .u8 ((b0.toNat ^^^ z : Nat) : Int)) := by
    unfold turnB
    rw [hb0.out, Option.getD_some, u8s_set, htn, ← hQ.out]
  have hOB : OB (wd.setCell ⟨b1, q, none⟩ (.int .u8 ((b0.toNat ^^^ z : Nat) : Int))) (p + 1) (.slice (some ⟨b1, 0, none⟩) bs.length d3) (turnB bs n) := by
    refine OB.lower (base := w.heap.size) ?_ hpl.out
    unfold OB
    rw [ht, turnB_len]
    exact ho
  have hBS2 : Below w.heap.size w (wd.setCell ⟨b1, q, none⟩ (.int .u8 ((b0.toNat ^^^ z : Nat) : Int))) := hBd.out.setCell hge _
  obtain ⟨q1, q2, q3, q4, q5, q6, q7, q8, q9⟩ := hH.out
  have hend := NetAt.turned (i := i) q1 q2 q3 q4 q5 q6 q9 hBS2 hOB (by rw [turnB_len]; exact hbl)
  rw [hBS.out] at hend ⊢
  generalize (wd.setCell ⟨b1, q, none⟩ (.int .u8 ((b0.toNat ^^^ z : Nat) : Int))).setCell ⟨g, i * 3, none⟩ (.slice (some ⟨b1, 0, none⟩) k.b.length d3) = W at *
  go_ret
  exact ⟨rfl, hend⟩
theorem Spoil_bad (p : Nat) (most : Int) (ks : List PK) (i : Nat) (k : PK) (n : Int) (w : World) (hG : GOk w) (h : NetAt cz w p most ks) (hk : ks[i]? = some k) (hn : n < 0 ∨ 8 * (k.b.length : Int) ≤ n) :
    Calls Tryz.prog 23 #[.pointer (some ⟨p, 0, none⟩), .int .i64 i, .int .i64 n] w fun e w' => e = .returned (.int .i64 2) ∧ Below w.heap.size w w' := by
  have hi : i < ks.length := (List.getElem?_eq_some_iff.1 hk).1
  have hN := Lib.hid h
  have hGG := Lib.hid hG
  obtain ⟨g, c, mb, mk, vs, v, h1, h2, h3, h4, h5, h6, hv, hov⟩ := h.row hk
  have x1 : w.cell? ⟨p, 1, none⟩ = some (.slice (some ⟨g, 0, none⟩) ks.length c) := by rw [block_cell h1]; rfl
  have y0 : w.cell? ⟨g, i * 3, none⟩ = some v := by rw [h4.cellAt _ (by omega)]; exact (pksC_get vs ks i _ k hv hk).1
  have hbl := (h6 i v k hv hk).2.1
  obtain ⟨A, d, rfl⟩ := own_slice hov
  clear h h1 h2 h3 h4 h5 h6 hv hov hk hG
  generalize k.b.length = bl at *
  by_cases h0 : n < 0
  · have d1 : decide (n < 0) = true := by simpa using h0
    clear hn h0
    go_enter Tryz.func23, Tryz.ntmps23
    go_wp2_with fail
    refine (at_ok p most ks i _ hN.out hi).mono ?_
    rintro e w ⟨rfl, rfl⟩
    go_wp2_with fail
    refine (new_err 2 (by decide) _).mono ?_
    rintro e w2 ⟨T2, b2, rfl, hE_, hB_⟩
    have hE2 := Lib.hid hE_
    have hB2 := Lib.hid hB_
    clear hE_ hB_
    go_wp2_with fail
    refine (at_any i _ 2 _ hE2.out).mono ?_
    rintro e w3 ⟨T3, b3, rfl, hE_, hB_⟩
    have hE3 := Lib.hid hE_
    have hB3 := Lib.hid (bnext hB2.out hB_)
    clear hE_ hB_
    go_wp2_with fail
    refine (code_err _ 2 _ hE3.out (hGG.out.below hB3.out)).mono ?_
    rintro e w4 ⟨rfl, hB_⟩
    have hB4 := Lib.hid (bnext hB3.out hB_)
    clear hB_
    go_wp2_with fail
    go_ret
    exact ⟨rfl, hB4.out⟩
  · have d1 : decide (n < 0) = false := by simpa using h0
    have d2 : decide (8 * (bl : Int) ≤ n) = true := by simp; omega
    clear hn h0
    go_enter Tryz.func23, Tryz.ntmps23
    go_wp2_with fail
    refine (at_ok p most ks i _ hN.out hi).mono ?_
    rintro e w ⟨rfl, rfl⟩
    go_wp2_with fail
    refine (new_err 2 (by decide) _).mono ?_
    rintro e w2 ⟨T2, b2, rfl, hE_, hB_⟩
    have hE2 := Lib.hid hE_
    have hB2 := Lib.hid hB_
    clear hE_ hB_
    go_wp2_with fail
    refine (at_any i _ 2 _ hE2.out).mono ?_
    rintro e w3 ⟨T3, b3, rfl, hE_, hB_⟩
    have hE3 := Lib.hid hE_
    have hB3 := Lib.hid (bnext hB2.out hB_)
    clear hE_ hB_
    go_wp2_with fail
    refine (code_err _ 2 _ hE3.out (hGG.out.below hB3.out)).mono ?_
    rintro e w4 ⟨rfl, hB_⟩
    have hB4 := Lib.hid (bnext hB3.out hB_)
    clear hB_
    go_wp2_with fail
    go_ret
    exact ⟨rfl, hB4.out⟩
end Go.Proofs.YteeiacfddjhhkaaGreatDoor
