/- octet.Nat returns the bytes natB of its number, for every uint64. -/
import Derived.Test.YteeiacfddjhhkaaGreatDoorBase
import Derived.Test.YteeiacfddjhhkaaGreatDoorPlain
namespace Go.Proofs.YteeiacfddjhhkaaGreatDoor
open Go.RowKit
set_option maxRecDepth 100000

/-- The array behind k rounds. -/
def NatArr (w : World) (g n k : Nat) : Prop := ∃ arr : Array Value, w.heap[g]? = some (.cells arr 151 (0, 0)) ∧ arr.toList = List.replicate (9 - k) (.int .u8 0) ++ u8s (low n k)

theorem NatArr.cell {w : World} {g n k : Nat} (h : NatArr w g n k) {i : Nat} (hi : i < 9) (hk : k ≤ 8) : ∃ u, w.cell? ⟨g, i, none⟩ = some u ∧ w.frozen? ⟨g, i, none⟩ = false := by
  obtain ⟨arr, hb, hl⟩ := h
  have hs : arr.toList.length = 9 := by rw [hl]; simp [u8s_length, low_length]; omega
  have hs2 : i < arr.size := by simp at hs; omega
  exact ⟨arr[i], by rw [block_cell hb]; exact Array.getElem?_eq_getElem hs2, block_free hb i⟩
theorem set_rep (z v : Value) (k : Nat) (hk : k < 8) (L : List Value) : (List.replicate (9 - k) z ++ L).set (8 - k) v = List.replicate (9 - (k + 1)) z ++ v :: L := by
  have e2 : 9 - k = (8 - k) + 1 := by omega
  have e3 : 9 - (k + 1) = 8 - k := by omega
  rw [e2, e3, List.replicate_succ', List.append_assoc, List.set_append_right _ _ (by simp)]
  simp
theorem NatArr.step {w : World} {g n k x : Nat} (h : NatArr w g n k) (hk : k < 8) (hx : n / 256 ^ k = x) : NatArr (w.setCell ⟨g, 8 - k, none⟩ (.int .u8 ((x : Int) % 256))) g n (k + 1) := by
  obtain ⟨arr, hb, hl⟩ := h
  refine ⟨_, block_setCell hb _ _, ?_⟩
  rw [Array.toList_setIfInBounds, hl, set_rep _ _ k hk]
  have e : (Value.int .u8 ((x : Int) % 256)) = .int .u8 ((UInt8.ofNat x).toNat : Int) := congrArg (Value.int .u8) (by rw [UInt8.toNat_ofNat']; rfl)
  have e4 : low n (k + 1) = UInt8.ofNat x :: low n k := by rw [← hx]; rfl
  rw [e, e4]
  rfl

theorem set_rep_last (z v : Value) (k : Nat) (hk : k ≤ 8) (L : List Value) : (List.replicate (9 - k) z ++ L).set (8 - k) v = List.replicate (8 - k) z ++ v :: L := by
  have e2 : 9 - k = (8 - k) + 1 := by omega
  rw [e2, List.replicate_succ', List.append_assoc, List.set_append_right _ _ (by simp)]
  simp
theorem NatArr.last {w : World} {g n k : Nat} (h : NatArr w g n k) (hk : k ≤ 8) (hn : natB n = UInt8.ofNat k :: low n k) :
    ∃ arr : Array Value, (w.setCell ⟨g, 8 - k, none⟩ (.int .u8 k)).heap[g]? = some (.cells arr 151 (0, 0)) ∧ arr.toList = List.replicate (8 - k) (.int .u8 0) ++ u8s (natB n) := by
  obtain ⟨arr, hb, hl⟩ := h
  refine ⟨_, block_setCell hb _ _, ?_⟩
  rw [Array.toList_setIfInBounds, hl, set_rep_last _ _ k hk, hn]
  have e : (Value.int .u8 (k : Int)) = .int .u8 ((UInt8.ofNat k).toNat : Int) := congrArg (Value.int .u8) (by rw [UInt8.toNat_ofNat']; omega)
  rw [e]
  rfl

theorem nat_any (n : Nat) (hn : n < 18446744073709551616) (w : World) :
    Calls Tryz.prog 57 #[.int .u64 n] w (RetB w (natB n)) := by
  have hN := Lib.hid hn
  go_enter Tryz.func57, Tryz.ntmps57
  go_wp2_with fail
  go_loopw [4, 5] (fun c x wr => ∃ k : Nat, k ≤ 8 ∧ c = .int .i64 k ∧ x = .int .u64 (n / 256 ^ k : Nat) ∧ Hid (k = 0 ∨ 0 < n / 256 ^ (k - 1)) ∧ NatArr wr w.heap.size n k ∧ Below w.heap.size w wr) (fun _ x _ => (intOf x).toNat)
  case atStart => exact ⟨0, by omega, rfl, by simp, .inl rfl, ⟨_, heap_alloc_new w _, rfl⟩, (Below.refl _ _).alloc (Nat.le_refl _) _⟩
  case round =>
    obtain ⟨k, hk, rfl, rfl, hp, hA, hB⟩ := hrel
    have hA' := Lib.hid hA
    have hB' := Lib.hid hB
    clear hA hB
    generalize hx : n / 256 ^ k = x at *
    have hX := Lib.hid hx
    clear hx
    by_cases h0 : 0 < x
    · have hk8 : k < 8 := by
        rcases Nat.lt_or_ge k 8 with h | h
        · exact h
        · have : k = 8 := by omega
          subst this
          have h1 := hX.out
          have h2 := hN.out
          omega
      obtain ⟨u, hc, hf⟩ := NatArr.cell hA'.out (i := 8 - k) (by omega) hk
      go_wp2_with fail
      refine ⟨⟨k + 1, by omega, by go_num, ?_, .inr (by simpa [hX.out] using h0), ?_, hB'.out.setCell (p := ⟨w.heap.size, 8 - k, none⟩) (Nat.le_refl _) _⟩, ?_⟩
      · have : n / 256 ^ (k + 1) = x / 256 := by rw [← hX.out, Nat.div_div_eq_div_mul, Nat.pow_succ]
        rw [this]; rfl
      · exact NatArr.step hA'.out hk8 hX.out
      · simp [intOf]; omega
    · have hx0 : x = 0 := by omega
      subst hx0
      clear h0
      obtain ⟨u, hc, hf⟩ := NatArr.cell hA'.out (i := 8 - k) (by omega) hk
      have hsl : ∀ W, (Instr.sliceAt 151 (.pointer (some ⟨w.heap.size, 0, none⟩)) (some (.int .i64 (8 - k))) none none).run Tryz.prog W = .ok (.slice (some ⟨w.heap.size, 8 - k, none⟩) (k + 1) (k + 1)) W := by
        intro W
        rw [run_sliceAt_array_l W 151 ⟨w.heap.size, 0, none⟩ Tryz.underlying151 .i64 (8 - k) (by omega) (show _ ≤ ((9 : Nat) : Int) by omega)]
        have es : (sizeOf (Tryz.prog.elem 151)).run Tryz.prog W = .ok 1 W := by kernel_rfl
        have e9 : Tryz.prog.arrayLen 151 = 9 := by kernel_rfl
        have e1 : (8 - (k : Int)).toNat = 8 - k := by omega
        rw [es, e9]
        simp only [Result.andThen, slicedAt, e1]
        rw [if_neg (by omega), add_plain, Nat.mul_one, show 9 - (8 - k) = k + 1 from by omega]
      have hnat : Hid (natB n = UInt8.ofNat k :: low n k) := Lib.hid (natB_low hk hX.out hp.out)
      obtain ⟨i0, hi, hz0, hz1, hz2⟩ := info_parts Tryz.infoU8
      have hlast := Lib.hid (NatArr.last hA'.out hk hnat.out)
      have hsz : w.heap.size < wr.heap.size := by
        obtain ⟨arr, hb, _⟩ := hA'.out
        exact lt_of_block hb
      have hlen : (natB n).length = k + 1 := by rw [hnat.out]; simp [low_length]
      have hL := Lib.hid hlen
      clear hlen
      go_wp2_with (at_builtin; refine wpList_append_own _ rfl _ _ 51 rfl w.heap.size 5 i0 (.int .u8 0) 1 1 Tryz.underlying51 hi hz0 hz1 hz2 rfl (by decide) (.slice (some ⟨wr.heap.size, 0, none⟩) 0 0) 0 [] rfl ?c1 ⟨w.heap.size, 8 - k, none⟩ (k + 1) (k + 1) (u8s (natB n)) rfl ?c2 ?c3 (u8s_one _) ?c4 ?c5 ?c6 ?_)
      case c1 =>
        have := World.ownsRow_made (base := w.heap.size) (e := 5) (size := 1) (wr.setCell ⟨w.heap.size, 8 - k, none⟩ (.int .u8 k)) #[] 0 (by simp; omega) (by simp) (by simp)
        simpa using this
      case c2 => rw [u8s_length, hL.out, Nat.mul_one]
      case c3 =>
        intro j u hu
        obtain ⟨arr, hb, hl⟩ := hlast.out
        rw [World.cell?_alloc_lt _ _ _ (by rw [add_block]; simp; omega)]
        have : (⟨w.heap.size, 8 - k, none⟩ : Addr).add j = ⟨w.heap.size, 8 - k + j, none⟩ := by unfold Addr.add; split <;> simp_all
        rw [this, block_cell hb, ← Array.getElem?_toList, hl, List.getElem?_append_right (by simp)]
        simpa using hu
      case c4 => simp [maxLen]; omega
      case c5 => omega
      case c6 => simp; omega
      intro v' w1 hown hg _
      have hb1 : Below w.heap.size w w1 := ((hB'.out.setCell (p := ⟨w.heap.size, 8 - k, none⟩) (Nat.le_refl _) (.int .u8 k)).alloc (by simp; omega) (.cells #[] 5)).grown hg (by simp; omega) (by intro q hq; simp [Value.ownBlock] at hq; omega)
      have hB1 := Lib.hid hb1
      have hO := Lib.hid hown
      clear hown hg hb1
      go_wp2_with fail
      go_ret
      refine RetB.mk rfl (v := v') ?_ hB1.out
      unfold OB
      rw [hL.out]
      simpa using hO.out
theorem nat_int (n : Int) (h0 : 0 ≤ n) (h1 : n < 18446744073709551616) (w : World) :
    Calls Tryz.prog 57 #[.int .u64 n] w (RetB w (natB n.toNat)) := by
  obtain ⟨m, rfl⟩ := Int.eq_ofNat_of_zero_le h0
  rw [Int.toNat_natCast]
  exact nat_any m (by omega) w
end Go.Proofs.YteeiacfddjhhkaaGreatDoor
