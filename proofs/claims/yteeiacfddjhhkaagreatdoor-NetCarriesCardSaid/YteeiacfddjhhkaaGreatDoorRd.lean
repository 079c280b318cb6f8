/- octet.In: the reader of bytes, where what it shall read stands there. -/
import Derived.Test.YteeiacfddjhhkaaGreatDoorRdPlain
import Derived.Test.YteeiacfddjhhkaaGreatDoorEncPlain
import Derived.Laws.BitsAllLaws
namespace Go.Proofs.YteeiacfddjhhkaaGreatDoor
open Go.RowKit
set_option maxRecDepth 100000

theorem add_zero' (a : Addr) : a.add 0 = a := rfl
/-- A reader in block p, over bytes in block g, of which rest is left. -/
def InAt (w : World) (p g : Nat) (rest : List UInt8) : Prop := ∃ (ad : Addr) (c : Nat) (bs : List UInt8) (k : Nat), w.heap[p]? = some (.cells #[.slice (some ad) bs.length c, .int .i64 k, .nilIface] 168 (0, 0)) ∧
  RB w (.slice (some ad) bs.length c) bs ∧ ad.block = g ∧ g < p ∧ k ≤ bs.length ∧ bs.length ≤ 100000 ∧ bs.drop k = rest
theorem InAt.later {w w' : World} {p g : Nat} {rest : List UInt8} (h : InAt w p g rest) (hb : Below w.heap.size w w') : InAt w' p g rest := by
  obtain ⟨ad, c, bs, k, h1, h2, r⟩ := h
  exact ⟨ad, c, bs, k, block_below hb h1, h2.below hb, r⟩
theorem InAt.move {w w' : World} {p g : Nat} {rest : List UInt8} (h : InAt w p g rest) (hb : ∀ k, k ≤ p → w'.heap[k]? = w.heap[k]?) : InAt w' p g rest := by
  obtain ⟨ad, c, bs, k, h1, h2, hg, hlt, r⟩ := h
  exact ⟨ad, c, bs, k, (hb p (Nat.le_refl _)).trans h1, h2.move (fun j hj => hb j (by simp [Value.ownBlock] at hj; omega)), hg, hlt, r⟩
theorem InAt.lt {w : World} {p g : Nat} {rest : List UInt8} (h : InAt w p g rest) : p < w.heap.size := by
  obtain ⟨_, _, _, _, hb, _⟩ := h
  exact lt_of_block hb
/-- What the reader was asked, with the rest. -/
def RetIn (w : World) (p g : Nat) (rest : List UInt8) (r : Value) (e : Ending) (w' : World) : Prop := e = .returned r ∧ InAt w' p g rest ∧ Kept (· = p) w w'

theorem of_any (v : Value) (bs : List UInt8) (w : World) (h : RB w v bs) (hne : bs ≠ []) (hl : bs.length ≤ 100000) :
    Calls Tryz.prog 66 #[v] w fun e w' => ∃ p g, e = .returned (.pointer (some ⟨p, 0, none⟩)) ∧ InAt w' p g bs ∧ w.heap.size ≤ p ∧ Below w.heap.size w w' := by
  obtain ⟨A, c, rfl, hn, hc, hm, hr⟩ := id h
  obtain ⟨ad, rfl, hcell⟩ := hr.get (j := 0) (by rw [u8s_length]; exact List.length_pos_iff.2 hne)
  have hlt := World.block_lt_of_cell? w _ hcell
  rw [add_block] at hlt
  have hR := Lib.hid h
  clear h hr hcell hn
  go_enter Tryz.func66, Tryz.ntmps66
  go_wp2_with fail
  go_ret
  refine ⟨_, _, rfl, ⟨ad, c, bs, 0, heap_alloc_new w _, hR.out.below (below_alloc (Below.refl _ _) _), rfl, by omega, Nat.zero_le _, hl, rfl⟩, Nat.le_refl _, below_alloc (Below.refl _ _) _⟩

theorem bad_any (p g : Nat) (rest : List UInt8) (w : World) (h : InAt w p g rest) :
    Calls Tryz.prog 91 #[.pointer (some ⟨p, 0, none⟩)] w fun e w' => e = .returned (.bool false) ∧ w' = w := by
  obtain ⟨ad, c, bs, k, hb, hR, hg, hne, hk, hl, hd⟩ := h
  have x2 : w.cell? ⟨p, 2, none⟩ = some .nilIface := by rw [block_cell hb]; rfl
  clear hb hR hd
  go_enter Tryz.func91, Tryz.ntmps91
  go_wp2_with fail
  go_ret
  exact ⟨rfl, rfl⟩

theorem in_step {w W : World} {p g k n c c2 : Nat} {ad ad2 : Addr} {bs a rest : List UInt8} (hb : w.heap[p]? = some (.cells #[.slice (some ad) bs.length c, .int .i64 k, .nilIface] 168 (0, 0))) (hR : RB w (.slice (some ad) bs.length c) bs)
    (hg : ad.block = g) (hne : g < p) (hl : bs.length ≤ 100000) (hk : k ≤ bs.length) (hd : bs.drop k = a ++ rest) (ha : a.length = n) (hK : ∀ j, j ≠ p → W.heap[j]? = w.heap[j]?) (hW : W.heap[p]? = some (.cells #[.slice (some ad) bs.length c, .int .i64 ((k : Int) + n), .nilIface] 168 (0, 0)))
    (h2 : n = 0 ∧ c2 = 0 ∧ ad2 = ad ∨ ad2 = ad.add k ∧ c2 = c - k) : ad2.block = g ∧ RB W (.slice (some ad2) n c2) a ∧ InAt W p g rest := by
  have hlen : bs.length = k + n + rest.length := by
    have := congrArg List.length hd
    rw [List.length_drop, List.length_append] at this
    omega
  have hRW : RB W (.slice (some ad) bs.length c) bs := hR.move fun j hj => by
    simp [Value.ownBlock] at hj
    exact hK j (by omega)
  refine ⟨?_, ?_, ad, c, bs, k + n, ?_, hRW, hg, hne, by omega, hl, ?_⟩
  · rcases h2 with ⟨_, _, rfl⟩ | ⟨rfl, _⟩
    · exact hg
    · rw [add_block]; exact hg
  · obtain ⟨A', c', he, _, hc, hm, hrow⟩ := hRW
    cases he
    rcases h2 with ⟨rfl, rfl, rfl⟩ | ⟨rfl, rfl⟩
    · have : a = [] := List.eq_nil_of_length_eq_zero ha
      subst this
      exact ⟨_, 0, rfl, fun h => (by cases h), Nat.le_refl _, Nat.zero_le _, RowAt.nil _ _⟩
    · refine ⟨_, _, by rw [ha], fun h => (by cases h), by omega, by omega, ?_⟩
      have h3 := (hrow.drop k).take n
      rw [u8s, ← List.map_drop, ← List.map_take, hd, ← ha, List.take_left'  rfl] at h3
      exact h3
  · rw [hW]; simp
  · rw [← List.drop_drop, hd, ← ha, List.drop_left' rfl]
theorem raw_any (n : Nat) (a rest : List UInt8) (p g : Nat) (w : World) (h : InAt w p g (a ++ rest)) (ha : a.length = n) :
    Calls Tryz.prog 125 #[.pointer (some ⟨p, 0, none⟩), .int .u64 n] w fun e w' => ∃ ad c, e = .returned (.tuple #[.slice (some ad) n c, .bool true]) ∧ (ad.block = g ∧ RB w' (.slice (some ad) n c) a ∧ InAt w' p g rest) ∧ Kept (· = p) w w' := by
  obtain ⟨ad, c, bs, k, hb, hR_, hg, hne, hk, hl, hd⟩ := h
  have hlen : bs.length = k + n + rest.length := by
    have := congrArg List.length hd
    rw [List.length_drop, List.length_append] at this
    omega
  have x0 : w.cell? ⟨p, 0, none⟩ = some (.slice (some ad) bs.length c) := by rw [block_cell hb]; rfl
  have x1 : w.cell? ⟨p, 1, none⟩ = some (.int .i64 k) := by rw [block_cell hb]; rfl
  have f1 : w.frozen? ⟨p, 1, none⟩ = false := block_free hb 1
  have w1 : IntKind.u64.wrap ((bs.length : Int) - k) = (bs.length : Int) - k := by rw [IntKind.wrap_u64]; omega
  have w0 : IntKind.i64.wrap ((bs.length : Int) - k) = (bs.length : Int) - k := by rw [IntKind.wrap_i64]; omega
  have w4 : IntKind.i64.wrap ((k : Int) + n) = (k : Int) + n := by rw [IntKind.wrap_i64]; omega
  have w5 : ¬ ((n : Int) > (bs.length : Int) - k) := by omega
  have w2 : IntKind.i64.wrap (n : Int) = n := by rw [IntKind.wrap_i64]; omega
  have w3 : (k : Int) + n ≤ bs.length := by omega
  obtain ⟨A', c', he, _, hc, hm, hrow⟩ := id hR_
  cases he
  have hW : ∀ m, Hid (((w.drewN m).setCell ⟨p, 1, none⟩ (.int .i64 ((k : Int) + n))).heap[p]? = some (.cells #[.slice (some ad) bs.length c, .int .i64 ((k : Int) + n), .nilIface] 168 (0, 0))) := fun m => Lib.hid (by
    rw [block_setCell (show (w.drewN m).heap[p]? = _ from hb)]; rfl)
  have hKK : ∀ m, Hid (Kept (· = p) w ((w.drewN m).setCell ⟨p, 1, none⟩ (.int .i64 ((k : Int) + n)))) := fun m => Lib.hid (Kept.setCell (S := (· = p)) (p := ⟨p, 1, none⟩) ((Kept.refl _ w).drewN m) (.inl rfl) _)
  have hend : ∀ m ad2 c2, (n = 0 ∧ c2 = 0 ∧ ad2 = ad ∨ ad2 = ad.add k ∧ c2 = c - k) → Hid (ad2.block = g ∧ RB ((w.drewN m).setCell ⟨p, 1, none⟩ (.int .i64 ((k : Int) + n))) (.slice (some ad2) n c2) a ∧ InAt ((w.drewN m).setCell ⟨p, 1, none⟩ (.int .i64 ((k : Int) + n))) p g rest) :=
    fun m ad2 c2 h2 => Lib.hid (in_step hb hR_ hg hne hl hk hd ha (fun j hj => by rw [Below.heap_setCell _ _ _ _ (by simpa using hj)]; rfl) (hW m).out h2)
  have hEnd := Lib.hid hend
  clear hend hb hd hlen hrow hR_ hW
  go_enter Tryz.func125, Tryz.ntmps125
  go_wp2_with fail
  go_quiet (fail)
  go_wp2_with fail
  go_quiet (fail)
  go_wp2_with fail
  · refine bodyPost_ret (v := .tuple #[.slice (some ad) n 0, .bool true]) ?_ rfl ⟨_, _, rfl, (hEnd.out _ ad 0 (.inl ⟨by omega, rfl, rfl⟩)).out, (hKK _).out⟩
    simp [results, Tryz.results125, go_sem]
  · refine bodyPost_ret (v := .tuple #[.slice (some (ad.add k)) n (c - k), .bool true]) ?_ rfl ⟨_, _, rfl, (hEnd.out _ _ _ (.inr ⟨rfl, rfl⟩)).out, (hKK _).out⟩
    simp [results, Tryz.results125, go_sem]

theorem or256 (x c : Nat) (hc : c < 256) : x * 256 ||| c = x * 256 + c := by
  have h := Nat.two_pow_add_eq_or_of_lt (i := 8) (b := c) (by omega) x
  rw [Nat.mul_comm x 256]
  exact h.symm
theorem nat_rd (n : Nat) (rest : List UInt8) (p g : Nat) (w : World) (h : InAt w p g (natB n ++ rest)) (hn : n < 18446744073709551616) :
    Calls Tryz.prog 92 #[.pointer (some ⟨p, 0, none⟩)] w (RetIn w p g rest (.tuple #[.int .u64 n, .bool true])) := by
  obtain ⟨D, hD⟩ : ∃ l, digs 8 n = l := ⟨_, rfl⟩
  have h8 : D.length ≤ 8 := by rw [← hD]; exact digs_length 8 n
  have hbe : beN D = n := by rw [← hD]; exact beN_digs 8 n (by simpa using hn)
  have hhead : ∀ b, D[0]? = some b → b.toNat ≠ 0 := by rw [← hD]; exact digs_head 8 n (by simpa using hn)
  have hB := Lib.hid hbe
  have hH := Lib.hid hhead
  have h0 : InAt w p g ([UInt8.ofNat D.length] ++ (D ++ rest)) := by rw [natB_cons, hD] at h; exact h
  have hI := Lib.hid h0
  clear h h0 hbe hhead hD
  go_enter Tryz.func92, Tryz.ntmps92
  go_wp2_with fail
  refine (raw_any 1 [UInt8.ofNat D.length] (D ++ rest) p g _ hI.out rfl).mono ?_
  rintro e w1 ⟨ad1, c1, rfl, ⟨hg1_, hR1_, hI1_⟩, hK1_⟩
  have hR1 := Lib.hid hR1_
  have hI1 := Lib.hid hI1_
  have hK1 := Lib.hid hK1_
  obtain ⟨ad', had, hc⟩ := hR1_.at_ (i := 0) (by simp)
  cases had
  have hu : ((UInt8.ofNat D.length).toNat : Int) = D.length := by rw [UInt8.toNat_ofNat']; omega
  rw [add_zero', List.getElem_cons_zero, hu] at hc
  clear hR1_ hI1_ hK1_ hI hu
  go_wp2_with fail
  refine (raw_any D.length D rest p g _ hI1.out rfl).mono ?_
  rintro e w2 ⟨ad2, c2, rfl, ⟨hg2_, hR2_, hI2_⟩, hK2_⟩
  have hR2 := Lib.hid hR2_
  have hEND : Hid (InAt w2 p g rest ∧ Kept (· = p) w w2) := Lib.hid ⟨hI2_, hK1.out.trans hK2_ fun _ _ h => h⟩
  have hfirst : D.length = 0 ∨ ∃ x : UInt8, w2.cell? ad2 = some (.int .u8 (x.toNat : Int)) ∧ x.toNat ≠ 0 ∧ 0 < D.length := by
    rcases Nat.eq_zero_or_pos D.length with h | h
    · exact .inl h
    · obtain ⟨ad', had, hc2⟩ := hR2_.at_ (i := 0) h
      cases had
      exact .inr ⟨_, hc2, hH.out _ (List.getElem?_eq_getElem h), h⟩
  have hloop : ∀ (K : List UInt8), True := fun _ => trivial
  clear hR2_ hI2_ hK2_ hI1 hK1 hR1 hc hloop
  rcases hfirst with hz | ⟨x, hc, hx, hpos⟩
  · have hD0 : D = [] := List.eq_nil_of_length_eq_zero hz
    subst hD0
    have hn0 : n = 0 := hB.out.symm
    subst hn0
    go_wp2_with fail
    refine wp_loop_rounds 1 ?_
    rw [rounds_succ]
    go_wp2_with fail
    refine bodyPost_ret (v := .tuple #[.int .u64 ((0 : Nat) : Int), .bool true]) ?_ rfl ⟨rfl, hEND.out⟩
    simp [results, Tryz.results92, go_sem]
  · have hx2 : ((x.toNat : Int) == 0) = false := by simpa using hx
    have hx3 : ¬ ((x.toNat : Int) = 0) := by omega
    go_wp2_with fail
    go_loop [7, 9, 47] (fun s _ i => ∃ k : Nat, k ≤ D.length ∧ i = .int .i64 k ∧ s = .int .u64 (beN (D.take k))) (fun _ _ i => D.length - (intOf i).toNat)
    case atStart => exact ⟨0, by omega, rfl, rfl⟩
    case round =>
      obtain ⟨k, hk, rfl, rfl⟩ := hrel
      by_cases hlt : k < D.length
      · obtain ⟨ad', had, hc2⟩ := hR2.out.at_ hlt
        cases had
        have hs := beN_snoc (D.take k) D[k]
        rw [← List.take_succ_eq_append_getElem hlt] at hs
        have hle := beN_le 7 (show (D.take k).length ≤ 7 by simp; omega)
        have hle2 := beN_le 8 (show (D.take (k+1)).length ≤ 8 by simp; omega)
        generalize beN (D.take k) = x at *
        go_wp2_with fail
        have hc9 := D[k].toNat_lt
        have ho : bits BinOp.or IntKind.u64 ((x : Int) * 256) (D[k].toNat : Int) = (beN (D.take (k + 1)) : Nat) := by
          rw [show (x : Int) * 256 = ((x * 256 : Nat) : Int) by omega, u64_or_nat _ _ (by omega) (by omega), or256 _ _ (by omega), hs]
        rw [ho]
        go_round
        case rel => exact ⟨k + 1, by omega, by go_num, rfl⟩
        case measure => simp [intOf]; omega
      · have hkk : k = D.length := by omega
        subst hkk
        rw [List.take_length, hB.out]
        go_wp2_with fail
        refine bodyPost_ret (v := .tuple #[.int .u64 (n : Int), .bool true]) ?_ rfl ⟨rfl, hEND.out⟩
        simp [results, Tryz.results92, go_sem]
end Go.Proofs.YteeiacfddjhhkaaGreatDoor
