/- Numbers out of bytes, read back (plain words). octet.In: the reader of bytes, where what it shall read stands there. octet.In: Nat, Num, Str, Err, End; mess.small; where what they shall read stands there. ops.May, ops.Decode: where the bytes of good operations stand. -/
import Derived.Test.YteeiacfddjhhkaaGreatDoorOpsCheck
import Derived.Test.YteeiacfddjhhkaaGreatDoorOne
import Derived.Laws.BitsAllLaws
import Derived.Test.YteeiacfddjhhkaaGreatDoorMsg
namespace Go.Proofs.YteeiacfddjhhkaaGreatDoor

def beN (l : List UInt8) : Nat := l.foldl (fun a c => a * 256 + c.toNat) 0
theorem beN_snoc (l : List UInt8) (b : UInt8) : beN (l ++ [b]) = beN l * 256 + b.toNat := by simp [beN]
theorem beN_digs : ∀ (f n : Nat), n < 256 ^ f → beN (digs f n) = n
  | 0, n, h => by
    have : n = 0 := by simpa using h
    subst this
    rfl
  | f + 1, n, h => by
    rw [digs]
    split
    · rename_i h0; subst h0; rfl
    · rw [beN_snoc, beN_digs f (n / 256) (by rw [Nat.pow_succ] at h; omega), UInt8.toNat_ofNat']
      omega
theorem digs_head : ∀ (f n : Nat), n < 256 ^ f → ∀ b, (digs f n)[0]? = some b → b.toNat ≠ 0
  | 0, n, h, b, hb => by simp [digs] at hb
  | f + 1, n, h, b, hb => by
    rw [digs] at hb
    split at hb
    · simp at hb
    · rename_i h0
      have hd : n / 256 < 256 ^ f := by rw [Nat.pow_succ] at h; omega
      by_cases h1 : digs f (n / 256) = []
      · have h2 := beN_digs f _ hd
        rw [h1] at h2
        have h3 : n / 256 = 0 := h2.symm
        rw [h1] at hb
        simp at hb
        rw [← hb, UInt8.toNat_ofNat']
        omega
      · rw [List.getElem?_append_left (by have := List.length_pos_iff.2 h1; omega)] at hb
        exact digs_head f _ hd b hb
theorem beN_lt : ∀ (l : List UInt8) (a : Nat), l.foldl (fun a c => a * 256 + c.toNat) a < (a + 1) * 256 ^ l.length
  | [], a => by simp
  | b :: l, a => by
    rw [List.foldl_cons, List.length_cons]
    refine Nat.lt_of_lt_of_le (beN_lt l _) ?_
    have e : (a + 1) * 256 ^ (l.length + 1) = ((a + 1) * 256) * 256 ^ l.length := by rw [Nat.pow_succ, Nat.mul_comm (256 ^ l.length) 256, Nat.mul_assoc]
    rw [e]
    refine Nat.mul_le_mul_right _ ?_
    have := b.toNat_lt
    omega
theorem beN_le {l : List UInt8} (k : Nat) (h : l.length ≤ k) : beN l < 256 ^ k := by
  have h1 := beN_lt l 0
  have h2 : 256 ^ l.length ≤ 256 ^ k := Nat.pow_le_pow_right (by decide) h
  unfold beN
  omega
/-- A number with a sign, unfolded. -/
theorem zig_even (n : Int) : (zig n % 2 = 0 ∧ (zig n / 2 : Int) = n ∧ 0 ≤ n) ∨ (zig n % 2 = 1 ∧ ((zig n / 2 : Nat) : Int) = -n - 1 ∧ n < 0) := by
  unfold zig
  split <;> omega
theorem natB_small {n : Nat} (h : n < 256) : (natB n).length ≤ 2 := by
  have h0 : ∀ f, digs f 0 = [] := fun f => by cases f <;> simp [digs]
  have h1 : (digs 8 n).length ≤ 1 := by
    rw [digs]
    split
    · simp
    · rw [show n / 256 = 0 by omega, h0]; simp
  simp [natB]; omega
theorem natB_cons (n : Nat) : natB n = UInt8.ofNat (digs 8 n).length :: digs 8 n := rfl
end Go.Proofs.YteeiacfddjhhkaaGreatDoor
namespace Go.Proofs.YteeiacfddjhhkaaGreatDoor
open Go.RowKit
set_option maxRecDepth 100000

theorem add_zero' (a : Addr) : a.add 0 = a := rfl
/-- A reader in block p, over bytes in block g, of which rest is left. -/
def InAt (w : World) (p g : Nat) (rest : List UInt8) : Prop := ∃ (ad : Addr) (c : Nat) (bs : List UInt8) (k : Nat), w.heap[p]? = some (.cells #[.slice (some ad) bs.length c, .int .i64 k, .nilIface] 168 (0, 0)) ∧
  RB w (.slice (some ad) bs.length c) bs ∧ ad.block = g ∧ g < p ∧ k ≤ bs.length ∧ bs.length ≤ 100000 ∧ bs.drop k = rest
theorem InAt.later {w w' : World} {p g : Nat} {rest : List UInt8} (h : InAt w p g rest) (hb : Below w.heap.size w w') : InAt w' p g rest := by
  obtain ⟨ad, c, bs, k, h1, h2, r⟩ := h
  exact ⟨ad, c, bs, k, block_below hb h1, h2.below hb, r⟩
theorem InAt.move {w w' : World} {p g : Nat} {rest : List UInt8} (h : InAt w p g rest) (hb : ∀ k, k ≤ p → w'.heap[k]? = w.heap[k]?) : InAt w' p g rest := by
  obtain ⟨ad, c, bs, k, h1, h2, hg, hlt, r⟩ := h
  exact ⟨ad, c, bs, k, (hb p (Nat.le_refl _)).trans h1, h2.move (fun j hj => hb j (by simp [Value.ownBlock] at hj; omega)), hg, hlt, r⟩
theorem InAt.lt {w : World} {p g : Nat} {rest : List UInt8} (h : InAt w p g rest) : p < w.heap.size := by
  obtain ⟨_, _, _, _, hb, _⟩ := h
  exact lt_of_block hb
/-- What the reader was asked, with the rest. -/
def RetIn (w : World) (p g : Nat) (rest : List UInt8) (r : Value) (e : Ending) (w' : World) : Prop := e = .returned r ∧ InAt w' p g rest ∧ Kept (· = p) w w'

theorem of_any (v : Value) (bs : List UInt8) (w : World) (h : RB w v bs) (hne : bs ≠ []) (hl : bs.length ≤ 100000) :
    Calls Tryz.prog 66 #[v] w fun e w' => ∃ p g, e = .returned (.pointer (some ⟨p, 0, none⟩)) ∧ InAt w' p g bs ∧ w.heap.size ≤ p ∧ Below w.heap.size w w' := by
  obtain ⟨A, c, rfl, hn, hc, hm, hr⟩ := id h
  obtain ⟨ad, rfl, hcell⟩ := hr.get (j := 0) (by rw [u8s_length]; exact List.length_pos_iff.2 hne)
  have hlt := World.block_lt_of_cell? w _ hcell
  rw [add_block] at hlt
  have hR := Lib.hid h
  clear h hr hcell hn
  go_enter Tryz.func66, Tryz.ntmps66
  go_wp2_with fail
  go_ret
  refine ⟨_, _, rfl, ⟨ad, c, bs, 0, heap_alloc_new w _, hR.out.below (below_alloc (Below.refl _ _) _), rfl, by omega, Nat.zero_le _, hl, rfl⟩, Nat.le_refl _, below_alloc (Below.refl _ _) _⟩

theorem bad_any (p g : Nat) (rest : List UInt8) (w : World) (h : InAt w p g rest) :
    Calls Tryz.prog 91 #[.pointer (some ⟨p, 0, none⟩)] w fun e w' => e = .returned (.bool false) ∧ w' = w := by
  obtain ⟨ad, c, bs, k, hb, hR, hg, hne, hk, hl, hd⟩ := h
  have x2 : w.cell? ⟨p, 2, none⟩ = some .nilIface := by rw [block_cell hb]; rfl
  clear hb hR hd
  go_enter Tryz.func91, Tryz.ntmps91
  go_wp2_with fail
  go_ret
  exact ⟨rfl, rfl⟩

theorem in_step {w W : World} {p g k n c c2 : Nat} {ad ad2 : Addr} {bs a rest : List UInt8} (hb : w.heap[p]? = some (.cells #[.slice (some ad) bs.length c, .int .i64 k, .nilIface] 168 (0, 0))) (hR : RB w (.slice (some ad) bs.length c) bs)
    (hg : ad.block = g) (hne : g < p) (hl : bs.length ≤ 100000) (hk : k ≤ bs.length) (hd : bs.drop k = a ++ rest) (ha : a.length = n) (hK : ∀ j, j ≠ p → W.heap[j]? = w.heap[j]?) (hW : W.heap[p]? = some (.cells #[.slice (some ad) bs.length c, .int .i64 ((k : Int) + n), .nilIface] 168 (0, 0)))
    (h2 : n = 0 ∧ c2 = 0 ∧ ad2 = ad ∨ ad2 = ad.add k ∧ c2 = c - k) : ad2.block = g ∧ RB W (.slice (some ad2) n c2) a ∧ InAt W p g rest := by
  have hlen : bs.length = k + n + rest.length := by
    have := congrArg List.length hd
    rw [List.length_drop, List.length_append] at this
    omega
  have hRW : RB W (.slice (some ad) bs.length c) bs := hR.move fun j hj => by
    simp [Value.ownBlock] at hj
    exact hK j (by omega)
  refine ⟨?_, ?_, ad, c, bs, k + n, ?_, hRW, hg, hne, by omega, hl, ?_⟩
  · rcases h2 with ⟨_, _, rfl⟩ | ⟨rfl, _⟩
    · exact hg
    · rw [add_block]; exact hg
  · obtain ⟨A', c', he, _, hc, hm, hrow⟩ := hRW
    cases he
    rcases h2 with ⟨rfl, rfl, rfl⟩ | ⟨rfl, rfl⟩
    · have : a = [] := List.eq_nil_of_length_eq_zero ha
      subst this
      exact ⟨_, 0, rfl, fun h => (by cases h), Nat.le_refl _, Nat.zero_le _, RowAt.nil _ _⟩
    · refine ⟨_, _, by rw [ha], fun h => (by cases h), by omega, by omega, ?_⟩
      have h3 := (hrow.drop k).take n
      rw [u8s, ← List.map_drop, ← List.map_take, hd, ← ha, List.take_left'  rfl] at h3
      exact h3
  · rw [hW]; simp
  · rw [← List.drop_drop, hd, ← ha, List.drop_left' rfl]
theorem raw_any (n : Nat) (a rest : List UInt8) (p g : Nat) (w : World) (h : InAt w p g (a ++ rest)) (ha : a.length = n) :
    Calls Tryz.prog 125 #[.pointer (some ⟨p, 0, none⟩), .int .u64 n] w fun e w' => ∃ ad c, e = .returned (.tuple #[.slice (some ad) n c, .bool true]) ∧ (ad.block = g ∧ RB w' (.slice (some ad) n c) a ∧ InAt w' p g rest) ∧ Kept (· = p) w w' := by
  obtain ⟨ad, c, bs, k, hb, hR_, hg, hne, hk, hl, hd⟩ := h
  have hlen : bs.length = k + n + rest.length := by
    have := congrArg List.length hd
    rw [List.length_drop, List.length_append] at this
    omega
  have x0 : w.cell? ⟨p, 0, none⟩ = some (.slice (some ad) bs.length c) := by rw [block_cell hb]; rfl
  have x1 : w.cell? ⟨p, 1, none⟩ = some (.int .i64 k) := by rw [block_cell hb]; rfl
  have f1 : w.frozen? ⟨p, 1, none⟩ = false := block_free hb 1
  have w1 : IntKind.u64.wrap ((bs.length : Int) - k) = (bs.length : Int) - k := by rw [IntKind.wrap_u64]; omega
  have w0 : IntKind.i64.wrap ((bs.length : Int) - k) = (bs.length : Int) - k := by rw [IntKind.wrap_i64]; omega
  have w4 : IntKind.i64.wrap ((k : Int) + n) = (k : Int) + n := by rw [IntKind.wrap_i64]; omega
  have w5 : ¬ ((n : Int) > (bs.length : Int) - k) := by omega
  have w2 : IntKind.i64.wrap (n : Int) = n := by rw [IntKind.wrap_i64]; omega
  have w3 : (k : Int) + n ≤ bs.length := by omega
  obtain ⟨A', c', he, _, hc, hm, hrow⟩ := id hR_
  cases he
  have hW : ∀ m, Hid (((w.drewN m).setCell ⟨p, 1, none⟩ (.int .i64 ((k : Int) + n))).heap[p]? = some (.cells #[.slice (some ad) bs.length c, .int .i64 ((k : Int) + n), .nilIface] 168 (0, 0))) := fun m => Lib.hid (by
    rw [block_setCell (show (w.drewN m).heap[p]? = _ from hb)]; rfl)
  have hKK : ∀ m, Hid (Kept (· = p) w ((w.drewN m).setCell ⟨p, 1, none⟩ (.int .i64 ((k : Int) + n)))) := fun m => Lib.hid (Kept.setCell (S := (· = p)) (p := ⟨p, 1, none⟩) ((Kept.refl _ w).drewN m) (.inl rfl) _)
  have hend : ∀ m ad2 c2, (n = 0 ∧ c2 = 0 ∧ ad2 = ad ∨ ad2 = ad.add k ∧ c2 = c - k) → Hid (ad2.block = g ∧ RB ((w.drewN m).setCell ⟨p, 1, none⟩ (.int .i64 ((k : Int) + n))) (.slice (some ad2) n c2) a ∧ InAt ((w.drewN m).setCell ⟨p, 1, none⟩ (.int .i64 ((k : Int) + n))) p g rest) :=
    fun m ad2 c2 h2 => Lib.hid (in_step hb hR_ hg hne hl hk hd ha (fun j hj => by rw [Below.heap_setCell _ _ _ _ (by simpa using hj)]; rfl) (hW m).out h2)
  have hEnd := Lib.hid hend
  clear hend hb hd hlen hrow hR_ hW
  go_enter Tryz.func125, Tryz.ntmps125
  go_wp2_with fail
  go_quiet (fail)
  go_wp2_with fail
  go_quiet (fail)
  go_wp2_with fail
  · refine bodyPost_ret (v := .tuple #[.slice (some ad) n 0, .bool true]) ?_ rfl ⟨_, _, rfl, (hEnd.out _ ad 0 (.inl ⟨by omega, rfl, rfl⟩)).out, (hKK _).out⟩
    simp [results, Tryz.results125, go_sem]
  · refine bodyPost_ret (v := .tuple #[.slice (some (ad.add k)) n (c - k), .bool true]) ?_ rfl ⟨_, _, rfl, (hEnd.out _ _ _ (.inr ⟨rfl, rfl⟩)).out, (hKK _).out⟩
    simp [results, Tryz.results125, go_sem]

theorem or256 (x c : Nat) (hc : c < 256) : x * 256 ||| c = x * 256 + c := by
  have h := Nat.two_pow_add_eq_or_of_lt (i := 8) (b := c) (by omega) x
  rw [Nat.mul_comm x 256]
  exact h.symm
theorem nat_rd (n : Nat) (rest : List UInt8) (p g : Nat) (w : World) (h : InAt w p g (natB n ++ rest)) (hn : n < 18446744073709551616) :
    Calls Tryz.prog 92 #[.pointer (some ⟨p, 0, none⟩)] w (RetIn w p g rest (.tuple #[.int .u64 n, .bool true])) := by
  obtain ⟨D, hD⟩ : ∃ l, digs 8 n = l := ⟨_, rfl⟩
  have h8 : D.length ≤ 8 := by rw [← hD]; exact digs_length 8 n
  have hbe : beN D = n := by rw [← hD]; exact beN_digs 8 n (by simpa using hn)
  have hhead : ∀ b, D[0]? = some b → b.toNat ≠ 0 := by rw [← hD]; exact digs_head 8 n (by simpa using hn)
  have hB := Lib.hid hbe
  have hH := Lib.hid hhead
  have h0 : InAt w p g ([UInt8.ofNat D.length] ++ (D ++ rest)) := by rw [natB_cons, hD] at h; exact h
  have hI := Lib.hid h0
  clear h h0 hbe hhead hD
  go_enter Tryz.func92, Tryz.ntmps92
  go_wp2_with fail
  refine (raw_any 1 [UInt8.ofNat D.length] (D ++ rest) p g _ hI.out rfl).mono ?_
  rintro e w1 ⟨ad1, c1, rfl, ⟨hg1_, hR1_, hI1_⟩, hK1_⟩
  have hR1 := Lib.hid hR1_
  have hI1 := Lib.hid hI1_
  have hK1 := Lib.hid hK1_
  obtain ⟨ad', had, hc⟩ := hR1_.at_ (i := 0) (by simp)
  cases had
  have hu : ((UInt8.ofNat D.length).toNat : Int) = D.length := by rw [UInt8.toNat_ofNat']; omega
  rw [add_zero', List.getElem_cons_zero, hu] at hc
  clear hR1_ hI1_ hK1_ hI hu
  go_wp2_with fail
  refine (raw_any D.length D rest p g _ hI1.out rfl).mono ?_
  rintro e w2 ⟨ad2, c2, rfl, ⟨hg2_, hR2_, hI2_⟩, hK2_⟩
  have hR2 := Lib.hid hR2_
  have hEND : Hid (InAt w2 p g rest ∧ Kept (· = p) w w2) := Lib.hid ⟨hI2_, hK1.out.trans hK2_ fun _ _ h => h⟩
  have hfirst : D.length = 0 ∨ ∃ x : UInt8, w2.cell? ad2 = some (.int .u8 (x.toNat : Int)) ∧ x.toNat ≠ 0 ∧ 0 < D.length := by
    rcases Nat.eq_zero_or_pos D.length with h | h
    · exact .inl h
    · obtain ⟨ad', had, hc2⟩ := hR2_.at_ (i := 0) h
      cases had
      exact .inr ⟨_, hc2, hH.out _ (List.getElem?_eq_getElem h), h⟩
  have hloop : ∀ (K : List UInt8), True := fun _ => trivial
  clear hR2_ hI2_ hK2_ hI1 hK1 hR1 hc hloop
  rcases hfirst with hz | ⟨x, hc, hx, hpos⟩
  · have hD0 : D = [] := List.eq_nil_of_length_eq_zero hz
    subst hD0
    have hn0 : n = 0 := hB.out.symm
    subst hn0
    go_wp2_with fail
    refine wp_loop_rounds 1 ?_
    rw [rounds_succ]
    go_wp2_with fail
    refine bodyPost_ret (v := .tuple #[.int .u64 ((0 : Nat) : Int), .bool true]) ?_ rfl ⟨rfl, hEND.out⟩
    simp [results, Tryz.results92, go_sem]
  · have hx2 : ((x.toNat : Int) == 0) = false := by simpa using hx
    have hx3 : ¬ ((x.toNat : Int) = 0) := by omega
    go_wp2_with fail
    go_loop [7, 9, 47] (fun s _ i => ∃ k : Nat, k ≤ D.length ∧ i = .int .i64 k ∧ s = .int .u64 (beN (D.take k))) (fun _ _ i => D.length - (intOf i).toNat)
    case atStart => exact ⟨0, by omega, rfl, rfl⟩
    case round =>
      obtain ⟨k, hk, rfl, rfl⟩ := hrel
      by_cases hlt : k < D.length
      · obtain ⟨ad', had, hc2⟩ := hR2.out.at_ hlt
        cases had
        have hs := beN_snoc (D.take k) D[k]
        rw [← List.take_succ_eq_append_getElem hlt] at hs
        have hle := beN_le 7 (show (D.take k).length ≤ 7 by simp; omega)
        have hle2 := beN_le 8 (show (D.take (k+1)).length ≤ 8 by simp; omega)
        generalize beN (D.take k) = x at *
        go_wp2_with fail
        have hc9 := D[k].toNat_lt
        have ho : bits BinOp.or IntKind.u64 ((x : Int) * 256) (D[k].toNat : Int) = (beN (D.take (k + 1)) : Nat) := by
          rw [show (x : Int) * 256 = ((x * 256 : Nat) : Int) by omega, u64_or_nat _ _ (by omega) (by omega), or256 _ _ (by omega), hs]
        rw [ho]
        go_round
        case rel => exact ⟨k + 1, by omega, by go_num, rfl⟩
        case measure => simp [intOf]; omega
      · have hkk : k = D.length := by omega
        subst hkk
        rw [List.take_length, hB.out]
        go_wp2_with fail
        refine bodyPost_ret (v := .tuple #[.int .u64 (n : Int), .bool true]) ?_ rfl ⟨rfl, hEND.out⟩
        simp [results, Tryz.results92, go_sem]
end Go.Proofs.YteeiacfddjhhkaaGreatDoor
namespace Go.Proofs.YteeiacfddjhhkaaGreatDoor
open Go.RowKit
set_option maxRecDepth 100000

theorem Nat_rd (n : Nat) (rest : List UInt8) (p g : Nat) (w : World) (h : InAt w p g (natB n ++ rest)) (hn : n < 18446744073709551616) :
    Calls Tryz.prog 68 #[.pointer (some ⟨p, 0, none⟩)] w (RetIn w p g rest (.int .u64 n)) := by
  obtain ⟨ad, c, bs, k, hb, _⟩ := id h
  have x1 : w.cell? ⟨p, 1, none⟩ = some (.int .i64 k) := by rw [block_cell hb]; rfl
  have hI := Lib.hid h
  clear h hb
  go_enter Tryz.func68, Tryz.ntmps68
  go_wp2_with fail
  refine (bad_any p g _ _ hI.out).mono ?_
  rintro e w1 ⟨rfl, rfl⟩
  go_wp2_with fail
  refine (nat_rd n rest p g _ hI.out hn).mono ?_
  rintro e w2 ⟨rfl, hI2_, hK2_⟩
  have hI2 := Lib.hid hI2_
  have hK2 := Lib.hid hK2_
  clear hI2_ hK2_
  go_wp2_with fail
  go_ret
  exact ⟨rfl, hI2.out, hK2.out⟩
theorem small_rd (n : Nat) (rest : List UInt8) (p g : Nat) (w : World) (h : InAt w p g (natB n ++ rest)) (hn : n ≤ 1073741824) :
    Calls Tryz.prog 67 #[.pointer (some ⟨p, 0, none⟩)] w (RetIn w p g rest (.int .i64 n)) := by
  have hI := Lib.hid h
  clear h
  go_enter Tryz.func67, Tryz.ntmps67
  go_wp2_with fail
  refine (Nat_rd n rest p g _ hI.out (by omega)).mono ?_
  rintro e w2 ⟨rfl, hI2_, hK2_⟩
  have hI2 := Lib.hid hI2_
  have hK2 := Lib.hid hK2_
  clear hI2_ hK2_
  go_wp2_with fail
  go_ret
  exact ⟨rfl, hI2.out, hK2.out⟩
theorem i64_xor_m1 (a : Nat) (ha : a < 9223372036854775808) : bits .xor .i64 (a : Int) (-1) = -1 - (a : Int) := by
  show IntKind.i64.wrap ((BitVec.ofInt 64 (a : Int) ^^^ BitVec.ofInt 64 (-1)).toNat : Int) = _
  have h1 : BitVec.ofInt 64 (-1) = BitVec.allOnes 64 := by decide
  rw [h1, BitVec.xor_allOnes, BitVec.toNat_not, ofInt_u64 a (by omega)]
  simp [IntKind.wrap, IntKind.bits, IntKind.signed]
  omega
theorem i64_xor_0 (a : Nat) (ha : a < 9223372036854775808) : bits .xor .i64 (a : Int) 0 = (a : Int) := by
  show IntKind.i64.wrap ((BitVec.ofInt 64 (a : Int) ^^^ BitVec.ofInt 64 0).toNat : Int) = _
  have h1 : BitVec.ofInt 64 0 = 0#64 := by decide
  rw [h1, BitVec.xor_zero, ofInt_u64 a (by omega)]
  simp [IntKind.wrap, IntKind.bits, IntKind.signed]
  omega
theorem signed_any (n : Int) (hn : i64ok n) (w : World) :
    Calls Tryz.prog 94 #[.int .u64 (zig n)] w fun e w' => e = .returned (.int .i64 n) ∧ w' = w := by
  have hz := zig_even n
  have hlt : zig n < 18446744073709551616 := by obtain ⟨h1, h2⟩ := hn; unfold zig; split <;> omega
  generalize zig n = z at *
  have hand : bits .and .u64 (z : Int) 1 = ((z % 2 : Nat) : Int) := by
    rw [show (1 : Int) = ((1 : Nat) : Int) from rfl, u64_and_nat z 1 hlt (by omega), Nat.and_one_is_mod]
  have e : bits BinOp.xor IntKind.i64 ((z : Int) / 2) (wrap64 (-wrap64 (bits BinOp.and IntKind.u64 (z : Int) 1))) = n := by
    rw [hand]
    rcases hz with ⟨h1, h2, h3⟩ | ⟨h1, h2, h3⟩
    · rw [h1, show (wrap64 (-wrap64 ((0 : Nat) : Int))) = 0 from by decide +kernel, show (z : Int) / 2 = ((z / 2 : Nat) : Int) by omega, i64_xor_0 _ (by omega)]
      omega
    · rw [h1, show (wrap64 (-wrap64 ((1 : Nat) : Int))) = -1 from by decide +kernel, show (z : Int) / 2 = ((z / 2 : Nat) : Int) by omega, i64_xor_m1 _ (by omega)]
      omega
  clear hand
  go_enter Tryz.func94, Tryz.ntmps94
  go_wp2_with fail
  go_ret
  exact ⟨rfl, rfl⟩
theorem Num_rd (n : Int) (hn : i64ok n) (rest : List UInt8) (p g : Nat) (w : World) (h : InAt w p g (numB n ++ rest)) :
    Calls Tryz.prog 70 #[.pointer (some ⟨p, 0, none⟩)] w (RetIn w p g rest (.int .i64 n)) := by
  have hI := Lib.hid h
  have hlt : zig n < 18446744073709551616 := by obtain ⟨h1, h2⟩ := hn; unfold zig; split <;> omega
  clear h
  go_enter Tryz.func70, Tryz.ntmps70
  go_wp2_with fail
  refine (Nat_rd (zig n) rest p g _ hI.out hlt).mono ?_
  rintro e w2 ⟨rfl, hI2_, hK2_⟩
  have hI2 := Lib.hid hI2_
  have hK2 := Lib.hid hK2_
  clear hI2_ hK2_
  go_wp2_with fail
  refine (signed_any n hn _).mono ?_
  rintro e w3 ⟨rfl, rfl⟩
  go_wp2_with fail
  go_ret
  exact ⟨rfl, hI2.out, hK2.out⟩
theorem str_rd (s : List UInt8) (rest : List UInt8) (m : Nat) (p g : Nat) (w : World) (h : InAt w p g (strB s ++ rest)) (hm : m ≤ 1000000) (hs : s.length ≤ m) :
    Calls Tryz.prog 97 #[.pointer (some ⟨p, 0, none⟩), .int .i64 m] w (RetIn w p g rest (.tuple #[.string ⟨s.toArray⟩, .int .i64 0])) := by
  have hI := Lib.hid (show InAt w p g (natB s.length ++ (s ++ rest)) by rw [← List.append_assoc]; exact h)
  clear h
  go_enter Tryz.func97, Tryz.ntmps97
  go_wp2_with fail
  refine (nat_rd s.length (s ++ rest) p g _ hI.out (by omega)).mono ?_
  rintro e w2 ⟨rfl, hI2_, hK2_⟩
  have hI2 := Lib.hid hI2_
  have hK2 := Lib.hid hK2_
  clear hI2_ hK2_
  go_wp2_with fail
  refine (raw_any s.length s rest p g _ hI2.out rfl).mono ?_
  rintro e w3 ⟨ad3, c3, rfl, ⟨hg3_, hR3_, hI3_⟩, hK3_⟩
  have hR3 := Lib.hid hR3_
  have hEND : Hid (InAt w3 p g rest ∧ Kept (· = p) w w3) := Lib.hid ⟨hI3_, hK2.out.trans hK3_ fun _ _ h => h⟩
  clear hR3_ hI3_ hK3_ hK2 hI2 hI
  go_wp2_with (refine list_of_wp rfl ?_; refine wp_conv_BS (.tmp 29) _ s rfl rfl hR3.out ?_)
  go_wp2_with fail
  refine bodyPost_ret (v := .tuple #[.string ⟨s.toArray⟩, .int .i64 0]) ?_ rfl ⟨rfl, hEND.out⟩
  simp [results, Tryz.results97, go_sem]
theorem Str_rd (s : List UInt8) (rest : List UInt8) (m : Nat) (p g : Nat) (w : World) (h : InAt w p g (strB s ++ rest)) (hm : m ≤ 1000000) (hs : s.length ≤ m) :
    Calls Tryz.prog 72 #[.pointer (some ⟨p, 0, none⟩), .int .i64 m] w (RetIn w p g rest (.string ⟨s.toArray⟩)) := by
  obtain ⟨ad, c, bs, k, hb, _⟩ := id h
  have x1 : w.cell? ⟨p, 1, none⟩ = some (.int .i64 k) := by rw [block_cell hb]; rfl
  have hI := Lib.hid h
  clear h hb
  go_enter Tryz.func72, Tryz.ntmps72
  go_wp2_with fail
  refine (bad_any p g _ _ hI.out).mono ?_
  rintro e w1 ⟨rfl, rfl⟩
  go_wp2_with fail
  refine (str_rd s rest m p g _ hI.out hm hs).mono ?_
  rintro e w2 ⟨rfl, hI2_, hK2_⟩
  have hI2 := Lib.hid hI2_
  have hK2 := Lib.hid hK2_
  clear hI2_ hK2_
  go_wp2_with fail
  go_ret
  exact ⟨rfl, hI2.out, hK2.out⟩
theorem Err_rd (rest : List UInt8) (p g : Nat) (w : World) (h : InAt w p g rest) :
    Calls Tryz.prog 95 #[.pointer (some ⟨p, 0, none⟩)] w fun e w' => e = .returned (.int .i64 0) ∧ Below w.heap.size w w' := by
  obtain ⟨ad, c, bs, k, hb, _⟩ := id h
  have x2 : w.cell? ⟨p, 2, none⟩ = some .nilIface := by rw [block_cell hb]; rfl
  have hI := Lib.hid h
  clear h hb
  go_enter Tryz.func95, Tryz.ntmps95
  go_wp2_with fail
  refine (code_ok _).mono ?_
  rintro e w2 ⟨rfl, hB_⟩
  have hB := Lib.hid hB_
  clear hB_
  go_wp2_with fail
  go_ret
  exact ⟨rfl, hB.out⟩
theorem End_rd (p g : Nat) (w : World) (h : InAt w p g []) :
    Calls Tryz.prog 74 #[.pointer (some ⟨p, 0, none⟩)] w fun e w' => e = .returned (.int .i64 0) ∧ Below w.heap.size w w' := by
  obtain ⟨ad, c, bs, k, hb, _, _, _, hk, hl, hd⟩ := id h
  have hkl : k = bs.length := by have := congrArg List.length hd; simp at this; omega
  have x0 : w.cell? ⟨p, 0, none⟩ = some (.slice (some ad) bs.length c) := by rw [block_cell hb]; rfl
  have x1 : w.cell? ⟨p, 1, none⟩ = some (.int .i64 k) := by rw [block_cell hb]; rfl
  have x2 : w.cell? ⟨p, 2, none⟩ = some .nilIface := by rw [block_cell hb]; rfl
  have hI := Lib.hid h
  rw [hkl] at x1
  have hlt : ¬ ((bs.length : Int) < bs.length) := by omega
  clear h hb hd
  go_enter Tryz.func74, Tryz.ntmps74
  go_wp2_with fail
  go_quiet (fail)
  go_wp2_with fail
  refine (Err_rd [] p g _ (hI.out.later (below_drewN (Below.refl _ _) _))).mono ?_
  rintro e w2 ⟨rfl, hB_⟩
  have hB := Lib.hid (bnext (below_drewN (Below.refl _ w) nq) hB_)
  clear hB_
  go_wp2_with fail
  go_ret
  exact ⟨rfl, hB.out⟩
end Go.Proofs.YteeiacfddjhhkaaGreatDoor
namespace Go.Proofs.YteeiacfddjhhkaaGreatDoor
open Go.RowKit
set_option maxRecDepth 100000

theorem opsC_snoc (ops : List POp) (k : Nat) {o : POp} (hk : k < ops.length) (h : ops[k]? = some o) : opsC (ops.take (k + 1)) = opsC (ops.take k) ++ opC o := by
  have e : ops[k] = o := Option.some.inj ((List.getElem?_eq_getElem hk).symm.trans h)
  simp [opsC, List.take_succ_eq_append_getElem hk, e]
theorem own_kept {S : Nat → Prop} {w w1 : World} {base : Nat} {e : TypeId} {size n : Nat} {v : Value} {xs : List Value} (h : w.ownsRow base e size v n xs) (hk : Kept S w w1) (hs : ∀ k, base ≤ k → ¬ S k) : w1.ownsRow base e size v n xs :=
  own_move h fun k hv => hk.block k (h.lt k hv).2 (hs k (h.lt k hv).1)
theorem opsMay_ok (o : POp) (w : World) (hg : goodO o = true) (hks : o.key.size ≤ 1000000) :
    Calls Tryz.prog 96 #[opV o] w fun e w' => e = .returned (.bool true) ∧ Below w.heap.size w w' := by
  obtain ⟨kind, key, n, lo⟩ := o
  have hp := fun w => plain_any ⟨kind, key, n, lo⟩ w
  have hk := fun w => key_any key hks w
  unfold goodO at hg
  obtain ⟨h1, h2⟩ : plainO ⟨kind, key, n, lo⟩ = true ∧ keyS key.data.toList = true := by simpa using hg
  rw [h1] at hp
  rw [h2] at hk
  clear hg h1 h2
  show Calls Tryz.prog 96 #[.agg #[.int .i64 kind, .string key, .int .i64 n, .int .i64 lo]] w _
  have hb0 := Lib.hid (heap_alloc_new w (.cells #[.int .i64 kind, .string key, .int .i64 n, .int .i64 lo] 108))
  have hB0 := Lib.hid (below_alloc (Below.refl _ w) (.cells #[.int .i64 kind, .string key, .int .i64 n, .int .i64 lo] 108))
  go_enter Tryz.func96, Tryz.ntmps96
  go_wp2_with fail
  refine (hp _).mono ?_
  rintro e w1 ⟨rfl, hB1_⟩
  have hB1 := Lib.hid (bnext hB0.out hB1_)
  have x1 : w1.cell? ⟨w.heap.size, 1, none⟩ = some (.string key) := by rw [block_cell (block_below hB1_ hb0.out)]; rfl
  clear hB1_ hb0
  go_wp2_with fail
  refine (hk _).mono ?_
  rintro e w2 ⟨rfl, hB2_⟩
  have hB2 := Lib.hid (bnext hB1.out hB2_)
  clear hB2_ x1
  go_wp2_with fail
  go_ret
  exact ⟨rfl, hB2.out⟩

theorem Tryz.infoOp : (Tryz.prog.info? 108).map (fun i => (i.zero, i.size, i.bytes)) = some (some (.agg #[.int .i64 0, .string ⟨#[]⟩, .int .i64 0, .int .i64 0]), 4, 40) := by kernel_rfl
theorem kept_below {S : Nat → Prop} {w0 w w1 : World} (h : Below w0.heap.size w0 w) (hk : Kept S w w1) (hs : ∀ k, S k → w0.heap.size ≤ k) : Below w0.heap.size w0 w1 :=
  h.trans (hk.to_below h.size hs)
theorem opsDec_rd (ops : List POp) (v : Value) (w : World) (hl : ops.length ≤ 64) (hops : ∀ o ∈ ops, o.ok ∧ goodO o = true ∧ o.key.size ≤ 16) (hR : RB w v (opsB ops)) (hlen : (opsB ops).length ≤ 100000) :
    Calls Tryz.prog 71 #[v] w fun e w' => ∃ A c, e = .returned (.tuple #[.slice A ops.length c, .int .i64 0]) ∧ w'.ownsRow w.heap.size 108 4 (.slice A ops.length c) ops.length (opsC ops) ∧ Below w.heap.size w w' := by
  obtain ⟨A, c, hv, _⟩ := id hR
  have hRR := Lib.hid hR
  have hOPS := Lib.hid hops
  have hLEN := Lib.hid hlen
  subst hv
  clear hR hops hlen
  go_enter Tryz.func71, Tryz.ntmps71
  go_wp2_with fail
  refine (of_any _ _ _ hRR.out (by simp [opsB, natB]) hLEN.out).mono ?_
  rintro e w1 ⟨p, g, rfl, hI1_, hp, hB1_⟩
  have hI1 := Lib.hid hI1_
  have hB1 := Lib.hid hB1_
  clear hI1_ hB1_
  go_wp2_with fail
  refine (Nat_rd ops.length _ p g _ hI1.out (by omega)).mono ?_
  rintro e w2 ⟨rfl, hI2_, hK2_⟩
  have hI2 := Lib.hid hI2_
  have hB2 := Lib.hid (kept_below hB1.out hK2_ (by rintro _ rfl; exact hp))
  have hpl := Lib.hid (show p < w2.heap.size by obtain ⟨_, _, _, _, hb, _⟩ := hI2_; exact lt_of_block hb)
  clear hI2_ hK2_ hI1
  go_wp2_with fail
  go_loopw [6, 7, 8, 9] (fun s i _ _ wr => ∃ k : Nat, k ≤ ops.length ∧ i = .int .u64 k ∧ wr.ownsRow (p + 1) 108 4 s k (opsC (ops.take k)) ∧ InAt wr p g ((ops.drop k).map opB).flatten ∧ Below w.heap.size w wr ∧ p < wr.heap.size) (fun _ i _ _ _ => ops.length - (intOf i).toNat)
  case atStart => exact ⟨0, by omega, rfl, own_nil _ _ _ _, hI2.out, hB2.out, hpl.out⟩
  case round =>
    obtain ⟨k, hk, rfl, hO_, hI_, hB_, hpl_⟩ := hrel
    have hO := Lib.hid hO_
    have hB := Lib.hid hB_
    have hP := Lib.hid hpl_
    by_cases hlt : k < ops.length
    · obtain ⟨o, ho⟩ : ∃ o, ops[k]? = some o := ⟨_, List.getElem?_eq_getElem hlt⟩
      obtain ⟨ho1, ho2, ho3⟩ := hOPS.out o (List.mem_of_getElem? ho)
      have hX := Lib.hid ho
      have hkd : ops.drop k = o :: ops.drop (k + 1) := by
        rw [List.drop_eq_getElem_cons hlt]
        congr 1
        exact Option.some.inj ((List.getElem?_eq_getElem hlt).symm.trans ho)
      have hI := Lib.hid (show InAt wr p g (natB o.kind.toNat ++ (strB o.key.data.toList ++ (numB o.n ++ (numB o.lo ++ ((ops.drop (k + 1)).map opB).flatten)))) by
        rw [hkd, List.map_cons, List.flatten_cons, opB] at hI_
        simpa using hI_)
      have hkind := plainO_kind (show plainO o = true by unfold goodO at ho2; simp at ho2; exact ho2.1)
      have hmay := Lib.hid (opsMay_ok o · ho2 (by omega))
      obtain ⟨kind, ⟨key⟩, n, lo⟩ := o
      obtain ⟨hok1, hok2, hok3⟩ := ho1
      simp only at hkind hok1 hok2 hok3 ho3
      have hkt : ((kind.toNat : Nat) : Int) = kind := by omega
      have hk99 : kind ≤ 99 := by omega
      clear hI_ hO_ hB_ hpl_ ho hkd ho2
      go_wp2_with fail
      refine (Err_rd _ p g _ hI.out).mono ?_
      rintro e w3 ⟨rfl, hB3_⟩
      have hB3 := Lib.hid hB3_
      clear hB3_
      go_wp2_with fail
      refine (Nat_rd kind.toNat _ p g _ (hI.out.later hB3.out) (by omega)).mono ?_
      rintro e w4 ⟨rfl, hI4_, hK4_⟩
      have hI4 := Lib.hid hI4_
      have hK4 := Lib.hid hK4_
      clear hI4_ hK4_
      rw [hkt]
      go_wp2_with fail
      refine (Str_rd _ _ 16 p g _ hI4.out (by omega) (by show key.toList.length ≤ 16; rw [Array.length_toList]; exact ho3)).mono ?_
      rintro e w5 ⟨rfl, hI5_, hK5_⟩
      have hI5 := Lib.hid hI5_
      have hK5 := Lib.hid hK5_
      clear hI5_ hK5_
      go_wp2_with fail
      refine (Num_rd n hok2 _ p g _ hI5.out).mono ?_
      rintro e w6 ⟨rfl, hI6_, hK6_⟩
      have hI6 := Lib.hid hI6_
      have hK6 := Lib.hid hK6_
      clear hI6_ hK6_
      go_wp2_with fail
      refine (Num_rd lo hok3 _ p g _ hI6.out).mono ?_
      rintro e w7 ⟨rfl, hI7_, hK7_⟩
      have hKall : Kept (· = p) w3 w7 := ((hK4.out.trans hK5.out (fun _ _ h => h)).trans hK6.out (fun _ _ h => h)).trans hK7_ (fun _ _ h => h)
      have hI7 := Lib.hid hI7_
      have hB7 := Lib.hid (kept_below (bnext hB.out hB3.out) hKall (by rintro _ rfl; exact hp))
      have hO7 := Lib.hid (own_kept (own_below hO.out hB3.out) hKall (by rintro j hj rfl; omega))
      have hP7 := Lib.hid (show p < w7.heap.size from Nat.lt_of_lt_of_le hP.out (Nat.le_trans hB3.out.size hKall.size))
      clear hKall hI7_ hK7_ hK4 hK5 hK6 hI4 hI5 hI6 hO hB3 hI
      have hb8 := Lib.hid (heap_alloc_new w7 (.cells #[.int .i64 kind, .string ⟨key⟩, .int .i64 n, .int .i64 lo] 108))
      have hB8 := Lib.hid (below_alloc (Below.refl _ w7) (.cells #[.int .i64 kind, .string ⟨key⟩, .int .i64 n, .int .i64 lo] 108))
      go_wp2_with fail
      refine (Err_rd _ p g _ (hI7.out.later hB8.out)).mono ?_
      rintro e w9 ⟨rfl, hB9_⟩
      have hB9 := Lib.hid (bnext hB8.out hB9_)
      have hb9 := block_below hB9_ hb8.out
      have x0 : w9.cell? ⟨w7.heap.size, 0, none⟩ = some (.int .i64 kind) := by rw [block_cell hb9]; rfl
      have x1 : w9.cell? ⟨w7.heap.size, 1, none⟩ = some (.string ⟨key⟩) := by rw [block_cell hb9]; rfl
      have x2 : w9.cell? ⟨w7.heap.size, 2, none⟩ = some (.int .i64 n) := by rw [block_cell hb9]; rfl
      have x3 : w9.cell? ⟨w7.heap.size, 3, none⟩ = some (.int .i64 lo) := by rw [block_cell hb9]; rfl
      have hbb := Lib.hid hb9
      clear hB9_ hb9 hb8 hB8
      go_wp2_with fail
      refine (hmay.out _).mono ?_
      rintro e w10 ⟨rfl, hB10_⟩
      have hB10 := Lib.hid (bnext hB9.out hB10_)
      have hb9 := block_below hB10_ hbb.out
      clear x0 x1 x2 x3
      have x0 : w10.cell? ⟨w7.heap.size, 0, none⟩ = some (.int .i64 kind) := by rw [block_cell hb9]; rfl
      have x1 : w10.cell? ⟨w7.heap.size, 1, none⟩ = some (.string ⟨key⟩) := by rw [block_cell hb9]; rfl
      have x2 : w10.cell? ⟨w7.heap.size, 2, none⟩ = some (.int .i64 n) := by rw [block_cell hb9]; rfl
      have x3 : w10.cell? ⟨w7.heap.size, 3, none⟩ = some (.int .i64 lo) := by rw [block_cell hb9]; rfl
      have hB11 := Lib.hid (bnext hB10.out (below_alloc (Below.refl _ w10) (.cells #[.int .i64 kind, .string ⟨key⟩, .int .i64 n, .int .i64 lo] 108)))
      clear hB10_ hb9 hbb hB9
      go_wp2_with (at_builtin; refine list_of_wp rfl ?_; refine wp_append_row (.tmp 46) (.tmp 48) 29 rfl (p + 1) 108 _ 4 40 Tryz.underlying29 Tryz.infoOp rfl (by decide) (by decide) u6 k (opsC (ops.take k)) rfl (own_below hO7.out hB11.out) (some ⟨w10.heap.size, 0, none⟩) 1 1 (opC ⟨kind, ⟨key⟩, n, lo⟩) rfl (fun h => by cases h) (Nat.le_refl _) rfl (RowAt.made rfl) (by simp [opC, Value.oneCell']) (by omega) (Nat.le_trans hP7.out hB11.out.size) ?_)
      intro v9 w12 hO12_ hg12_ _
      have hO12 := Lib.hid hO12_
      have hB12 := Lib.hid ((hB7.out.trans (Below.mono hB11.out hB7.out.size)).grown hg12_ (hB7.out.trans (Below.mono hB11.out hB7.out.size)).size (fun j hj => by have := own_ge hO7.out j hj; omega))
      have hI12 := Lib.hid ((hI7.out.later hB11.out).move fun j hj => hg12_.block j (Nat.lt_of_le_of_lt hj (hI7.out.later hB11.out).lt) (fun h => by have := own_ge hO7.out j h.symm; omega))
      have hP12 := Lib.hid hI12.out.lt
      clear hO12_ hg12_ x0 x1 x2 x3
      go_wp2_with fail
      go_roundw
      case rel => exact ⟨k + 1, by omega, by go_num, by rw [opsC_snoc _ _ hlt hX.out]; exact hO12.out, hI12.out, hB12.out, hP12.out⟩
      case measure => simp [intOf]; omega
    · have hkk : k = ops.length := by omega
      subst hkk
      have hO9 := hO.out
      rw [List.take_length] at hO9
      have hI9 := hI_
      rw [List.drop_length] at hI9
      have hO := Lib.hid hO9
      have hI := Lib.hid hI9
      clear hO9 hI9 hO_ hI_ hB_ hpl_
      obtain ⟨A2, c2, rfl⟩ := own_slice hO.out
      go_wp2_with fail
      refine (End_rd p g _ hI.out).mono ?_
      rintro e w3 ⟨rfl, hB3_⟩
      have hB3 := Lib.hid (bnext hB.out hB3_)
      have hO3 := Lib.hid (own_lower (own_below hO.out hB3_) (show w.heap.size ≤ p + 1 by omega))
      clear hB3_
      go_wp2_with fail
      refine bodyPost_ret (v := .tuple #[.slice A2 ops.length c2, .int .i64 0]) ?_ rfl ⟨_, _, rfl, hO3.out, hB3.out⟩
      simp [results, Tryz.results71, go_sem]
end Go.Proofs.YteeiacfddjhhkaaGreatDoor
