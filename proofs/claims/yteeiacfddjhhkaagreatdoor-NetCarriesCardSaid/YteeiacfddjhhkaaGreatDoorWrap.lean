/- crc.Wrap returns the frame wrapB of its one part, if that is not too long. -/
import Derived.Test.YteeiacfddjhhkaaGreatDoorSeq
namespace Go.Proofs.YteeiacfddjhhkaaGreatDoor
open Go.RowKit
set_option maxRecDepth 100000

def headB (n : Nat) : List UInt8 := [167, UInt8.ofNat (n / 256), UInt8.ofNat n]
def tailB (s : Nat) : List UInt8 := [UInt8.ofNat (s / 16777216), UInt8.ofNat (s / 65536), UInt8.ofNat (s / 256), UInt8.ofNat s]
def wrapB (p : List UInt8) : List UInt8 := (headB p.length ++ p) ++ tailB (crcSum (headB p.length ++ p))
theorem crcSum_lt (bs : List UInt8) : crcSum bs < 4294967296 := Nat.xor_lt_two_pow (n := 32) (by omega) (crcAll_lt _ (by omega))
theorem wrapB_length (p : List UInt8) : (wrapB p).length = p.length + 7 := by simp [wrapB, headB, tailB]
theorem u8cell (x : Int) (n : Nat) (h : x = n % 256) : Value.int .u8 x = .int .u8 ((UInt8.ofNat n).toNat : Int) := congrArg (Value.int .u8) (by rw [UInt8.toNat_ofNat']; omega)

theorem RB_mk_wrap {w w' : World} {v : Value} {bs : List UInt8} (ho : OB w' w.heap.size v bs) (hb : Below w.heap.size w w') : RetB w bs (.returned v) w' := RetB.mk rfl ho hb
theorem wrap_one (v : Value) (p : List UInt8) (w : World) (h : RP w v [p]) (hp : p.length ≤ 16384) :
    Calls Tryz.prog 60 #[v] w (RetB w (wrapB p)) := by
  obtain ⟨A, c, rfl⟩ : ∃ A c, v = .slice A 1 c := (by obtain ⟨A, c, vs, hv, _⟩ := h; exact ⟨A, c, hv⟩)
  obtain ⟨ad, B, d, rfl, hcell, hrow, hmx, hrb⟩ := h.at_ (i := 0) (by simp)
  have hRB := Lib.hid hrb
  have hcell0 : w.cell? ad = some (.slice B p.length d) := hcell
  clear h hcell hrow hrb
  simp only [List.getElem_cons_zero] at hRB
  obtain ⟨m, hm⟩ : ∃ m : Nat, m = p.length := ⟨_, rfl⟩
  have hM := Lib.hid hm
  rw [← hm] at hcell0 hp
  clear hm
  have hmk : ∀ W, (Instr.makeSlice 51 (.int .i64 0) (.int .i64 ((m : Int) + 3 + 4))).run Tryz.prog W = .ok (.slice (some ⟨W.heap.size, 0, none⟩) 0 (m + 7)) (W.alloc (.cells (madeCells #[.int .u8 0] (m + 7)) 5)) := by
    intro W
    obtain ⟨i, hi, hz, hsize, hby⟩ := info_parts Tryz.infoU8
    rw [run_make W 51 5 i _ Tryz.underlying51 hi hz .i64 .i64 0 _ (by omega) (by omega) (by rw [hby]; omega) (by omega), hsize, show ((m : Int) + 3 + 4).toNat = m + 7 from by omega, Nat.mul_one]
    rfl
  go_enter Tryz.func60, Tryz.ntmps60
  go_wp2_with fail
  refine wp_loop_rounds 2 ?_
  rw [rounds_succ]
  go_wp2_with fail
  rw [rounds_succ]
  go_wp2_with (at_builtin; refine list_of_wp rfl ?_; refine wp_append_B (.tmp 29) (.tmp 35) rfl w.heap.size (.slice (some ⟨w.heap.size, 0, none⟩) 0 (m + 7)) (.slice (some ⟨w.heap.size + 1, 0, none⟩) 3 3) [] (headB m) (headB m) rfl rfl ?c1 rfl ?c2 ?c3 ?c4 ?_)
  case c1 =>
    refine OB.below (w := w.alloc (.cells (madeCells #[.int .u8 0] (m + 7)) 5)) ?_ ((Below.refl _ _).alloc (Nat.le_refl _) _)
    exact World.ownsRow_made (base := w.heap.size) (e := 5) (size := 1) w (madeCells #[.int .u8 0] (m + 7)) (m + 7) (Nat.le_refl _) (by simp [maxLen]; omega) (by simp [size_madeCells])
  case c2 =>
    refine RB.made (by simp) ?_ rfl (by simp [headB, maxLen])
    simp only [headB, u8s, List.map_cons, List.map_nil]
    rw [u8cell ((m : Int) / 256) (m / 256) (by omega), u8cell ((m : Int) % 256) m rfl]
    rfl
  case c3 => simp [headB]
  case c4 => simp; omega
  intro v1 w1 hO1_ hg1_ _
  have hB1 := Lib.hid (((((Below.refl w.heap.size w).alloc (Nat.le_refl _) (.cells (madeCells #[.int .u8 0] (m + 7)) 5)).alloc (by simp) (.cells #[.int .u8 167, .int .u8 ((m : Int) / 256), .int .u8 ((m : Int) % 256)] 5))).grown hg1_ (by simp; omega) (by intro k hk; simp [Value.ownBlock] at hk; omega))
  have hO1 := Lib.hid hO1_
  clear hO1_ hg1_
  have hcell1 := cell_below hB1.out hcell0
  have hRB1 : Hid (RB w1 (.slice B m d) p) := Lib.hid (by rw [hM.out]; exact hRB.out.below hB1.out)
  clear hcell0 hmk
  obtain ⟨l, hl⟩ : ∃ l, headB m ++ p = l := ⟨_, rfl⟩
  have hL := Lib.hid hl
  clear hl
  go_wp2_with fail
  refine wp_loop_rounds 2 ?_
  rw [rounds_succ]
  go_wp2_with (at_builtin; refine list_of_wp rfl ?_; refine wp_append_B (.tmp 43) (.tmp 44) rfl w.heap.size v1 (.slice B m d) (headB m) p l hL.out rfl hO1.out rfl hRB1.out ?c1 ?c2 ?_)
  case c1 => have h1 := hM.out; simp [headB]; omega
  case c2 => exact hB1.out.size
  intro v2 w2 hO2_ hg2_ _
  have hB2 := Lib.hid (hB1.out.grown hg2_ hB1.out.size (own_ge hO1.out))
  obtain ⟨A2, d2, rfl⟩ := own_slice hO2_
  have hO2 := Lib.hid hO2_
  clear hO2_ hg2_ hcell1
  go_wp2_with fail
  rw [rounds_succ]
  go_wp2_with fail
  refine (sum_any _ [l] _ (RP.made1 (RB.of_own hO2.out))).mono ?_
  rintro e w3 ⟨rfl, rfl⟩
  have hfl : Hid ([l].flatten = l) := Lib.hid (by simp)
  rw [hfl.out]
  have hs := crcSum_lt l
  generalize hcs : crcSum l = s at *
  have hCS := Lib.hid hcs
  clear hcs
  go_wp2_with (at_builtin; refine list_of_wp rfl ?_; refine wp_append_B (.tmp 50) (.tmp 62) rfl w.heap.size (.slice A2 l.length d2) (.slice (some ⟨w2.heap.size + 1, 0, none⟩) 4 4) l (tailB s) (l ++ tailB s) rfl rfl ?c1 rfl ?c2 ?c3 ?c4 ?_)
  case c1 => exact OB.below (OB.below hO2.out ((Below.refl _ _).alloc (Nat.le_refl _) _)) ((Below.refl _ _).alloc (Nat.le_refl _) _)
  case c2 =>
    refine RB.made (by simp) ?_ rfl (by simp [tailB, maxLen])
    simp only [tailB, u8s, List.map_cons, List.map_nil]
    rw [u8cell ((s : Int) / 16777216) (s / 16777216) (by omega), u8cell ((s : Int) / 65536 % 256) (s / 65536) (by omega), u8cell ((s : Int) / 256 % 256) (s / 256) (by omega), u8cell ((s : Int) % 256) s rfl]
  case c3 => have h1 := hM.out; have h2 := hL.out; rw [← h2]; simp [tailB, headB]; omega
  case c4 => have := hB2.out.size; simp; omega
  intro v4 w4 hO4_ hg4_ _
  have hBx := (hB2.out.alloc hB2.out.size (.cells #[.slice A2 l.length d2] 51)).alloc (by have := hB2.out.size; simp; omega) (.cells #[.int .u8 ((s : Int) / 16777216), .int .u8 ((s : Int) / 65536 % 256), .int .u8 ((s : Int) / 256 % 256), .int .u8 ((s : Int) % 256)] 5)
  have hB4 := Lib.hid (hBx.grown hg4_ hBx.size (own_ge hO2.out))
  have hO4 := Lib.hid hO4_
  clear hO4_ hg4_ hBx
  go_wp2_with fail
  go_ret
  have hO5 : OB w4 w.heap.size v4 (wrapB p) := by
    have e : wrapB p = l ++ tailB s := by rw [wrapB, ← hM.out, hL.out, hCS.out]
    rw [e]
    exact hO4.out
  exact RB_mk_wrap hO5 hB4.out
end Go.Proofs.YteeiacfddjhhkaaGreatDoor
