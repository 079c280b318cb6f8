/- crc.Sum is the plain function crcSum of the bytes of its parts, for every slice of slices of bytes that can be read. -/
import Derived.Test.YteeiacfddjhhkaaGreatDoorBase
namespace Go.Proofs.YteeiacfddjhhkaaGreatDoor
open Go.RowKit
set_option maxRecDepth 100000

def crcBit (s : Nat) : Nat := if s % 2 = 1 then (s / 2) ^^^ 2197175160 else s / 2
def crcBits (s : Nat) : Nat → Nat
  | 0 => s
  | k + 1 => crcBit (crcBits s k)
def crcByte (s : Nat) (c : UInt8) : Nat := crcBits (s ^^^ c.toNat) 8
def crcAll (s : Nat) (bs : List UInt8) : Nat := bs.foldl crcByte s
def crcSum (bs : List UInt8) : Nat := 4294967295 ^^^ crcAll 4294967295 bs
theorem crcBit_lt {s : Nat} (h : s < 4294967296) : crcBit s < 4294967296 := by
  unfold crcBit
  split
  · exact Nat.xor_lt_two_pow (n := 32) (by omega) (by omega)
  · omega
theorem crcBits_lt {s : Nat} (k : Nat) (h : s < 4294967296) : crcBits s k < 4294967296 := by
  induction k with
  | zero => exact h
  | succ k ih => exact crcBit_lt ih
theorem crcXor_lt {s : Nat} (c : UInt8) (h : s < 4294967296) : s ^^^ c.toNat < 4294967296 := Nat.xor_lt_two_pow (n := 32) h (by have := c.toNat_lt; omega)
theorem crcByte_lt {s : Nat} (c : UInt8) (h : s < 4294967296) : crcByte s c < 4294967296 := crcBits_lt 8 (crcXor_lt c h)
theorem crcAll_lt {s : Nat} (bs : List UInt8) (h : s < 4294967296) : crcAll s bs < 4294967296 := by
  induction bs generalizing s with
  | nil => exact h
  | cons c r ih => exact ih (crcByte_lt c h)
theorem crcAll_append (s : Nat) (a b : List UInt8) : crcAll s (a ++ b) = crcAll (crcAll s a) b := List.foldl_append ..
theorem crcAll_snoc (s : Nat) (bs : List UInt8) (j : Nat) (h : j < bs.length) : crcAll s (bs.take (j + 1)) = crcByte (crcAll s (bs.take j)) bs[j] := by
  rw [List.take_succ_eq_append_getElem h, crcAll_append]; rfl
theorem flat_snoc {α : Type} (parts : List (List α)) (k : Nat) (h : k < parts.length) : (parts.take (k + 1)).flatten = (parts.take k).flatten ++ parts[k] := by
  rw [List.take_succ_eq_append_getElem h, List.flatten_append]; simp

/-- Slices of bytes, one behind the other, that are read. -/
def RP (w : World) (v : Value) (parts : List (List UInt8)) : Prop :=
  ∃ A c vs, v = .slice A parts.length c ∧ parts.length ≤ maxLen ∧ vs.length = parts.length ∧ RowAt w A vs ∧ ∀ (i : Nat) (h : i < parts.length), ∃ v, vs[i]? = some v ∧ RB w v parts[i]
theorem RP.at_ {w : World} {A : Option Addr} {n c : Nat} {parts : List (List UInt8)} (h : RP w (.slice A n c) parts) {i : Nat} (hi : i < parts.length) :
    ∃ ad B d, A = some ad ∧ w.cell? (ad.add i) = some (.slice B parts[i].length d) ∧ RowAt w B (u8s parts[i]) ∧ parts[i].length ≤ maxLen ∧ RB w (.slice B parts[i].length d) parts[i] := by
  obtain ⟨A', c', vs, he, _, _, hr, hp⟩ := h
  cases he
  obtain ⟨v, hv, B, d, rfl, hn, hl, hm, hb⟩ := hp i hi
  obtain ⟨ad, hA, hc⟩ := hr i _ hv
  exact ⟨ad, B, d, hA, hc, hb, Nat.le_trans hl hm, B, d, rfl, hn, hl, hm, hb⟩

/-- Parts that a call has just built into a block of its own. -/
theorem RP.made {w : World} {vs : Array Value} {T : TypeId} {parts : List (List UInt8)} (hn : vs.size = parts.length) (h : ∀ (i : Nat) (hi : i < parts.length), ∃ v, vs[i]? = some v ∧ RB w v parts[i]) (hm : parts.length ≤ maxLen) :
    RP (w.alloc (.cells vs T)) (.slice (some ⟨w.heap.size, 0, none⟩) parts.length parts.length) parts := by
  refine ⟨_, _, vs.toList, rfl, hm, by simpa using hn, ?_, fun i hi => ?_⟩
  · intro j u hu
    refine ⟨_, rfl, ?_⟩
    rw [add_plain, World.cell?_alloc_new]
    simpa using hu
  · obtain ⟨v, hv, hr⟩ := h i hi
    exact ⟨v, by simpa using hv, hr.below ((Below.refl _ _).alloc (Nat.le_refl _) _)⟩
theorem RP.made1 {w : World} {v0 : Value} {T : TypeId} {p0 : List UInt8} (h0 : RB w v0 p0) : RP (w.alloc (.cells #[v0] T)) (.slice (some ⟨w.heap.size, 0, none⟩) 1 1) [p0] :=
  RP.made (vs := #[v0]) (parts := [p0]) rfl (fun i hi => by
    match i, hi with
    | 0, _ => exact ⟨v0, rfl, h0⟩) (by simp [maxLen])
theorem RP.made2 {w : World} {v0 v1 : Value} {T : TypeId} {p0 p1 : List UInt8} (h0 : RB w v0 p0) (h1 : RB w v1 p1) : RP (w.alloc (.cells #[v0, v1] T)) (.slice (some ⟨w.heap.size, 0, none⟩) 2 2) [p0, p1] :=
  RP.made (vs := #[v0, v1]) (parts := [p0, p1]) rfl (fun i hi => by
    match i, hi with
    | 0, _ => exact ⟨v0, rfl, h0⟩
    | 1, _ => exact ⟨v1, rfl, h1⟩) (by simp [maxLen])
theorem RP.made4 {w : World} {v0 v1 v2 v3 : Value} {T : TypeId} {p0 p1 p2 p3 : List UInt8} (h0 : RB w v0 p0) (h1 : RB w v1 p1) (h2 : RB w v2 p2) (h3 : RB w v3 p3) : RP (w.alloc (.cells #[v0, v1, v2, v3] T)) (.slice (some ⟨w.heap.size, 0, none⟩) 4 4) [p0, p1, p2, p3] :=
  RP.made (vs := #[v0, v1, v2, v3]) (parts := [p0, p1, p2, p3]) rfl (fun i hi => by
    match i, hi with
    | 0, _ => exact ⟨v0, rfl, h0⟩
    | 1, _ => exact ⟨v1, rfl, h1⟩
    | 2, _ => exact ⟨v2, rfl, h2⟩
    | 3, _ => exact ⟨v3, rfl, h3⟩) (by simp [maxLen])

theorem u32_step (t : Nat) (h : t < 4294967296) : crcBit t = if t % 2 = 1 then (t / 2) ^^^ 2197175160 else t / 2 := rfl

theorem sum_any (v : Value) (parts : List (List UInt8)) (w : World) (h : RP w v parts) :
    Calls Tryz.prog 85 #[v] w fun e w' => e = .returned (.int .u32 (crcSum parts.flatten : Nat)) ∧ w = w' := by
  obtain ⟨A, c, vs, rfl, hm, hl, hr, hp⟩ := id h
  clear hr hp hl vs
  have hR := Lib.hid h
  clear h
  unfold maxLen at hm
  go_enter Tryz.func85, Tryz.ntmps85
  go_wp2_with fail
  go_loop [3, 5, 7, 10, 14, 15, 16, 24] (fun s _ _ i _ _ _ _ => ∃ (k t : Nat), k ≤ parts.length ∧ i = .int .i64 k ∧ s = .int .u32 t ∧ Hid (t = crcAll 4294967295 (parts.take k).flatten)) (fun _ _ _ i _ _ _ _ => parts.length - (intOf i).toNat)
  case atStart => exact ⟨0, 4294967295, by omega, rfl, rfl, rfl⟩
  case round =>
    obtain ⟨k, t, hk, rfl, rfl, ht⟩ := hrel
    have hts : t < 4294967296 := by rw [ht.out]; exact crcAll_lt _ (by omega)
    by_cases hlt : k < parts.length
    · obtain ⟨ad, B, d, rfl, hcell, hb, hm2, hrb⟩ := hR.out.at_ hlt
      clear hrb
      generalize hbs : parts[k] = bs at *
      have hBS := Lib.hid hbs
      have hB := Lib.hid hb
      clear hb hbs
      unfold maxLen at hm2
      go_wp2_with fail
      go_loop [3, 7, 16, 24] (fun s _ i _ => ∃ (j u : Nat), j ≤ bs.length ∧ i = .int .i64 j ∧ s = .int .u32 u ∧ Hid (u = crcAll t (bs.take j))) (fun _ _ i _ => bs.length - (intOf i).toNat)
      case atStart => exact ⟨0, t, by omega, rfl, rfl, rfl⟩
      case round =>
        obtain ⟨j, u, hj, rfl, rfl, hu⟩ := hrel
        have hus : u < 4294967296 := by rw [hu.out]; exact crcAll_lt _ hts
        by_cases hjlt : j < bs.length
        · obtain ⟨ad2, rfl, hcell2⟩ := hB.out j _ (u8s_get (List.getElem?_eq_getElem hjlt))
          generalize hx : bs[j] = x at *
          have hX := Lib.hid hx
          clear hx
          have hxl := x.toNat_lt
          have hxor := u32_xor_nat u x.toNat (by omega) (by omega)
          have hxl2 := crcXor_lt x hus
          have hX2 : Hid (∃ y : UInt8, y = x) := ⟨x, rfl⟩
          generalize hy : u ^^^ x.toNat = y at *
          have hY := Lib.hid hy
          clear hy
          go_wp2_with fail
          go_loop [3, 24] (fun s i => ∃ (l z : Nat), l ≤ 8 ∧ i = .int .i64 l ∧ s = .int .u32 z ∧ Hid (z = crcBits y l)) (fun _ i => 8 - (intOf i).toNat)
          case atStart => exact ⟨0, y, by omega, rfl, rfl, rfl⟩
          case round =>
            obtain ⟨l, z, hl, rfl, rfl, hz⟩ := hrel
            have hzs : z < 4294967296 := by rw [hz.out]; exact crcBits_lt _ hxl2
            by_cases hll : l < 8
            · have hand : bits .and .u32 (z : Int) (1 : Int) = ((z &&& 1 : Nat) : Int) := u32_and_nat z 1 hzs (by omega)
              rw [nat_mask1] at hand
              have hx2 : bits .xor .u32 ((z / 2 : Nat) : Int) (2197175160 : Int) = (((z / 2) ^^^ 2197175160 : Nat) : Int) := u32_xor_nat (z / 2) 2197175160 (by omega) (by omega)
              have hx3 : bits .xor .u32 ((z : Int) / 2) (2197175160 : Int) = (((z / 2) ^^^ 2197175160 : Nat) : Int) := hx2
              clear hx2
              have hX3 := Lib.hid hx3
              clear hx3
              have hM : Hid ((z : Int) % 2 = ((z % 2 : Nat) : Int)) := Lib.hid (by omega)
              go_wp2_with fail
              · refine ⟨⟨l + 1, crcBit z, by omega, by go_num, ?_, ?_⟩, by simp [intOf]; omega⟩
                · have h1 : ((z : Int) % 2 == 1) = true := by assumption
                  rw [hX3.out, crcBit, if_pos (by simp at h1; omega)]
                · exact (show crcBit z = crcBits y (l + 1) by rw [hz.out]; rfl)
              · refine ⟨⟨l + 1, crcBit z, by omega, by go_num, ?_, ?_⟩, by simp [intOf]; omega⟩
                · have h1 : ((z : Int) % 2 == 1) = false := by assumption
                  rw [crcBit, if_neg (by simp at h1; omega)]
                  rfl
                · exact (show crcBit z = crcBits y (l + 1) by rw [hz.out]; rfl)
            · have h8 : l = 8 := by omega
              subst h8
              go_wp2_with fail
              go_round
              case rel => exact ⟨j + 1, z, by omega, by go_num, rfl, (show z = crcAll t (bs.take (j + 1)) by rw [hz.out, crcAll_snoc _ _ _ hjlt, hX.out, ← hu.out, crcByte, hY.out])⟩
              case measure => simp [intOf]; omega
        · go_wp2_with fail
          have hj2 : bs.take j = bs := List.take_of_length_le (by omega)
          go_round
          case rel => exact ⟨k + 1, u, by omega, by go_num, rfl, (show u = crcAll 4294967295 (parts.take (k + 1)).flatten by rw [flat_snoc _ _ hlt, crcAll_append, hBS.out, ← ht.out, hu.out, hj2])⟩
          case measure => simp [intOf]; omega
    · go_wp2_with fail
      have hk2 : parts.take k = parts := List.take_of_length_le (by omega)
      have ht2 := ht.out
      rw [hk2] at ht2
      have hn := u32_xor_nat 4294967295 t (by omega) hts
      go_ret
      exact ⟨ret_int (k := .u32) (show bits .xor .u32 (4294967295 : Nat) (t : Nat) = _ by rw [hn, ht2]; rfl), rfl⟩
end Go.Proofs.YteeiacfddjhhkaaGreatDoor
