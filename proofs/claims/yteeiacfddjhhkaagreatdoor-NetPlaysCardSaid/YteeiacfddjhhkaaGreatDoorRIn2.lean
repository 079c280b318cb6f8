/- The document's reader: of any bytes it comes back; where what it shall read stands there (G), it reads that. The document's reader: Of, wrong, Nat, Num, Str, End; byroadref19.small. -/
import Derived.Test.YteeiacfddjhhkaaGreatDoorRd3
import Derived.Test.YteeiacfddjhhkaaGreatDoorROps2
import Derived.Test.YteeiacfddjhhkaaGreatDoorSafe4
namespace Go.Proofs.YteeiacfddjhhkaaGreatDoor
open Go.RowKit
set_option maxRecDepth 100000

theorem natAt {bs rest : List UInt8} {k m : Nat} {x : UInt8} (h : bs.drop k = natB m ++ rest) (hx : bs[k]? = some x) :
    x.toNat = (digs 8 m).length ∧ (bs.drop (k + 1)).take x.toNat = digs 8 m ∧ k + 1 + x.toNat ≤ bs.length := by
  obtain ⟨hk, e⟩ := List.getElem?_eq_some_iff.1 hx
  rw [List.drop_eq_getElem_cons hk, e, natB_cons, List.cons_append] at h
  simp only [List.cons.injEq] at h
  obtain ⟨h1, h2⟩ := h
  have h8 := digs_length 8 m
  have hxl : x.toNat = (digs 8 m).length := by rw [h1, UInt8.toNat_ofNat']; omega
  refine ⟨hxl, by rw [h2, hxl, List.take_left' rfl], ?_⟩
  have := congrArg List.length h2
  rw [List.length_drop, List.length_append] at this
  omega
/-- What nat hands back. -/
def RNatAt (bs : List UInt8) (k : Nat) (w : World) (e : Ending) (w' : World) : Prop :=
  ∃ n L : Nat, e = .returned (.tuple #[.int .u64 n, .int .i64 L]) ∧ n < 18446744073709551616 ∧ k + L ≤ bs.length ∧ L ≤ 9 ∧ (∀ m rest, m < 18446744073709551616 → bs.drop k = natB m ++ rest → n = m ∧ L = (natB m).length) ∧ w' = w
set_option maxHeartbeats 1000000 in
theorem rin_nat (p : Nat) (A : Option Addr) (c : Nat) (bs : List UInt8) (k : Nat) (w : World) (hx0 : w.cell? ⟨p, 0, none⟩ = some (.slice A bs.length c)) (hR : RB w (.slice A bs.length c) bs) (hk : k ≤ bs.length) (hl : bs.length ≤ 100000) :
    Calls Tryz.prog 136 #[.pointer (some ⟨p, 0, none⟩), .int .i64 k] w (RNatAt bs k w) := by
  have hRR := Lib.hid hR
  clear hR
  by_cases hlt : k < bs.length
  case neg =>
    have d1 : decide ((bs.length : Int) ≤ k) = true := by simp; omega
    have hno : Hid (∀ m rest, m < 18446744073709551616 → bs.drop k = natB m ++ rest → 0 = m ∧ 0 = (natB m).length) := Lib.hid (fun m rest _ h => by
      rw [List.drop_of_length_le (by omega)] at h
      simp [natB] at h)
    go_enter Tryz.func136, Tryz.ntmps136
    go_wp2_with fail
    refine bodyPost_ret (v := .tuple #[.int .u64 ((0 : Nat) : Int), .int .i64 ((0 : Nat) : Int)]) ?_ rfl ⟨0, 0, rfl, by decide, by omega, by omega, hno.out, rfl⟩
    simp [results, Tryz.results136, go_sem]
  have d1 : decide ((bs.length : Int) ≤ k) = false := by simp; omega
  obtain ⟨ad, rfl, hc⟩ := hRR.out.at_ hlt
  obtain ⟨x, hx⟩ : ∃ x, bs[k] = x := ⟨_, rfl⟩
  rw [hx] at hc
  have hX : Hid (bs[k]? = some x) := Lib.hid (by rw [List.getElem?_eq_getElem hlt, hx])
  clear hx
  have hxl := x.toNat_lt
  have i1 : (k : Int) < bs.length := by omega
  have i0 : (0 : Int) ≤ k := by omega
  by_cases h8 : (8 : Int) < x.toNat
  · have d8 : decide ((8 : Int) < x.toNat) = true := by simpa using h8
    have hno : Hid (∀ m rest, m < 18446744073709551616 → bs.drop k = natB m ++ rest → 0 = m ∧ 0 = (natB m).length) := Lib.hid (fun m rest _ h => by
      have h1 := (natAt h hX.out).1
      have h2 := digs_length 8 m
      omega)
    go_enter Tryz.func136, Tryz.ntmps136
    go_wp2_with fail
    refine bodyPost_ret (v := .tuple #[.int .u64 ((0 : Nat) : Int), .int .i64 ((0 : Nat) : Int)]) ?_ rfl ⟨0, 0, rfl, by decide, by omega, by omega, hno.out, rfl⟩
    simp [results, Tryz.results136, go_sem]
  have d8 : decide ((8 : Int) < x.toNat) = false := by simpa using h8
  have w1 : IntKind.i64.wrap ((bs.length : Int) - k) = (bs.length : Int) - k := by rw [IntKind.wrap_i64]; omega
  have w2 : IntKind.i64.wrap ((bs.length : Int) - k - 1) = (bs.length : Int) - k - 1 := by rw [IntKind.wrap_i64]; omega
  by_cases hfit : (bs.length : Int) - k - 1 < x.toNat
  · have d9 : decide ((bs.length : Int) - k - 1 < x.toNat) = true := by simpa using hfit
    have hno : Hid (∀ m rest, m < 18446744073709551616 → bs.drop k = natB m ++ rest → 0 = m ∧ 0 = (natB m).length) := Lib.hid (fun m rest _ h => by
      have h1 := (natAt h hX.out).2.2
      omega)
    go_enter Tryz.func136, Tryz.ntmps136
    go_wp2_with fail
    refine bodyPost_ret (v := .tuple #[.int .u64 ((0 : Nat) : Int), .int .i64 ((0 : Nat) : Int)]) ?_ rfl ⟨0, 0, rfl, by decide, by omega, by omega, hno.out, rfl⟩
    simp [results, Tryz.results136, go_sem]
  have d9 : decide ((bs.length : Int) - k - 1 < x.toNat) = false := by simpa using hfit
  obtain ⟨D, hD⟩ : ∃ D, (bs.drop (k + 1)).take x.toNat = D := ⟨_, rfl⟩
  have hDl : D.length = x.toNat := by rw [← hD, List.length_take, List.length_drop]; omega
  have hDget : ∀ j (hj : j < D.length), ∃ y : UInt8, D[j] = y ∧ w.cell? (ad.add (k + 1 + j)) = some (.int .u8 (y.toNat : Int)) := fun j hj => by
    have hj2 : k + 1 + j < bs.length := by omega
    obtain ⟨ad', h', hc'⟩ := hRR.out.at_ hj2
    cases h'
    refine ⟨_, rfl, ?_⟩
    rw [hc']
    congr 3
    subst hD
    simp
  have hNat : Hid (∀ m rest, bs.drop k = natB m ++ rest → D = digs 8 m) := Lib.hid (fun m rest h => by rw [← hD]; exact (natAt h hX.out).2.1)
  have hDG := Lib.hid hDget
  have hDL : D.length ≤ 8 := by omega
  clear hD hDget hX
  generalize x.toNat = xn at *
  subst hDl
  go_enter Tryz.func136, Tryz.ntmps136
  go_wp2_with fail
  go_loop [7, 8] (fun s i => ∃ q : Nat, 1 ≤ q ∧ q ≤ D.length + 1 ∧ i = .int .i64 q ∧ s = .int .u64 (beN (D.take (q - 1)))) (fun _ i => D.length + 1 - (intOf i).toNat)
  case atStart => exact ⟨1, by omega, by omega, rfl, rfl⟩
  case round =>
    obtain ⟨q, hq1, hq, rfl, rfl⟩ := hrel
    obtain ⟨j, rfl⟩ : ∃ j, q = j + 1 := ⟨q - 1, by omega⟩
    rw [Nat.add_sub_cancel]
    obtain ⟨q, hqj⟩ : ∃ q, j + 1 = q := ⟨_, rfl⟩
    rw [hqj] at hq hq1 ⊢
    by_cases hjl : j < D.length
    · obtain ⟨y, hy, hcy⟩ := hDG.out j hjl
      rw [show k + 1 + j = k + q by omega] at hcy
      have hs := beN_snoc (D.take j) D[j]
      rw [← List.take_succ_eq_append_getElem hjl, hy] at hs
      have hle := beN_le 7 (show (D.take j).length ≤ 7 by simp; omega)
      have hle2 := beN_le 8 (show (D.take (j+1)).length ≤ 8 by simp; omega)
      have dn : q ≤ D.length := by omega
      have hyl := y.toNat_lt
      have wk : IntKind.i64.wrap ((k : Int) + (q : Int)) = (k : Int) + q := by rw [IntKind.wrap_i64]; omega
      have ik : (k : Int) + (q : Int) < bs.length := by omega
      have ik0 : (0 : Int) ≤ (k : Int) + q := by omega
      have ikt : ((k : Int) + q).toNat = k + q := by omega
      have ho : ((beN (D.take j) : Nat) : Int) * 256 + (y.toNat : Int) = (beN (D.take (j + 1)) : Nat) := by rw [hs]; omega
      have hbe : Hid (beN (D.take (j + 1)) = beN (D.take (q + 1 - 1))) := Lib.hid (by rw [Nat.add_sub_cancel, hqj])
      generalize beN (D.take j) = x at *
      generalize beN (D.take (j + 1)) = x2 at *
      clear hy hs hle hjl
      have hQJ := Lib.hid hqj
      clear hqj
      go_wp2_with fail
      go_round
      case rel => exact ⟨q + 1, by omega, by omega, by go_num, by rw [← hbe.out]⟩
      case measure => simp [intOf]; omega
    · have hjj : j = D.length := by omega
      subst hjj
      rw [List.take_length]
      have hQJ := Lib.hid hqj
      have dn : ¬ q ≤ D.length := by omega
      clear hqj
      have hle := beN_le 8 hDL
      have hfin : Hid (∀ m rest, m < 18446744073709551616 → bs.drop k = natB m ++ rest → beN D = m ∧ D.length + 1 = (natB m).length) := Lib.hid (fun m rest hm h => by
        have h1 := hNat.out m rest h
        refine ⟨by rw [h1]; exact beN_digs 8 m (by simpa using hm), by rw [h1]; simp [natB]⟩)
      rcases Nat.eq_zero_or_pos D.length with h0 | h0
      · obtain rfl : D = [] := List.eq_nil_of_length_eq_zero h0
        go_wp2_with fail
        refine bodyPost_ret (v := .tuple #[.int .u64 ((0 : Nat) : Int), .int .i64 ((1 : Nat) : Int)]) ?_ rfl ⟨0, 1, rfl, by decide, by omega, by omega, hfin.out, rfl⟩
        simp [results, Tryz.results136, go_sem, beN]
      · obtain ⟨y, hy, hcy⟩ := hDG.out 0 h0
        have d0 : decide ((0 : Int) < D.length) = true := by simp; omega
        have wk : IntKind.i64.wrap ((k : Int) + 1) = (k : Int) + 1 := by rw [IntKind.wrap_i64]; omega
        have ik : (k : Int) + 1 < bs.length := by omega
        have ik0 : (0 : Int) ≤ (k : Int) + 1 := by omega
        have ikt : ((k : Int) + 1).toNat = k + 1 := by omega
        have hyl := y.toNat_lt
        rw [Nat.add_zero] at hcy
        have hcy2 : w.cell? ⟨ad.block, ad.off + (k + 1), none⟩ = some (.int .u8 (y.toNat : Int)) := by
          rw [show (⟨ad.block, ad.off + (k + 1), none⟩ : Addr) = ad.add (k + 1) from rfl]
          exact hcy
        by_cases hz : (y.toNat : Int) = 0
        · have dz : ((y.toNat : Int) == 0) = true := by simpa using hz
          have hno : Hid (∀ m rest, m < 18446744073709551616 → bs.drop k = natB m ++ rest → 0 = m ∧ 0 = (natB m).length) := Lib.hid (fun m rest hm h => by
            have h1 := hNat.out m rest h
            have h2 := digs_head 8 m (by simpa using hm) y (by rw [← h1, List.getElem?_eq_getElem h0, hy])
            omega)
          clear hz
          go_wp2_with fail
          refine bodyPost_ret (v := .tuple #[.int .u64 ((0 : Nat) : Int), .int .i64 ((0 : Nat) : Int)]) ?_ rfl ⟨0, 0, rfl, by decide, by omega, by omega, hno.out, rfl⟩
          simp [results, Tryz.results136, go_sem]
        · have dz : ((y.toNat : Int) == 0) = false := by simpa using hz
          clear hz
          have hw9 : IntKind.i64.wrap ((D.length : Int) + 1) = (D.length : Int) + 1 := by rw [IntKind.wrap_i64]; omega
          go_wp2_with fail
          refine bodyPost_ret (v := .tuple #[.int .u64 ((beN D : Nat) : Int), .int .i64 ((D.length + 1 : Nat) : Int)]) ?_ rfl ⟨beN D, D.length + 1, rfl, by simpa using hle, by omega, by omega, hfin.out, rfl⟩
          simp [results, Tryz.results136, go_sem]
end Go.Proofs.YteeiacfddjhhkaaGreatDoor
namespace Go.Proofs.YteeiacfddjhhkaaGreatDoor
open Go.RowKit
set_option maxRecDepth 100000

def RdC (w : World) (p : Nat) (A : Option Addr) (c : Nat) (bs : List UInt8) (k : Nat) (er bad : Int) : Prop :=
  w.heap[p]? = some (.cells #[.slice A bs.length c, .int .i64 k, .int .i64 er, .int .i64 bad] 211 (0, 0)) ∧ RB w (.slice A bs.length c) bs ∧ (bs = [] ∨ ∀ ad, A = some ad → ad.block < p) ∧ k ≤ bs.length ∧ bs.length ≤ 100000
/-- The document's reader in block p; under G nothing was wrong yet, and rest is left. -/
def RdAt (G : Prop) (w : World) (p : Nat) (rest : List UInt8) : Prop := ∃ A c bs k er bad, RdC w p A c bs k er bad ∧ (G → er = 0 ∧ bs.drop k = rest)
theorem RdC.lt {w : World} {p : Nat} {A : Option Addr} {c : Nat} {bs : List UInt8} {k : Nat} {er bad : Int} (h : RdC w p A c bs k er bad) : p < w.heap.size := lt_of_block h.1
theorem RdC.step {w W : World} {p : Nat} {A : Option Addr} {c : Nat} {bs : List UInt8} {k k' : Nat} {er bad er' bad' : Int} (h : RdC w p A c bs k er bad) (hW : W.heap[p]? = some (.cells #[.slice A bs.length c, .int .i64 k', .int .i64 er', .int .i64 bad'] 211 (0, 0))) (hK : Kept (· = p) w W) (hk : k' ≤ bs.length) : RdC W p A c bs k' er' bad' := by
  obtain ⟨h1, h2, h3, h4, h5⟩ := h
  refine ⟨hW, h2.moveE (h3.imp id fun h3 ad hA => ?_), h3, hk, h5⟩
  have := h3 ad hA
  exact hK.block _ (by have := lt_of_block h1; omega) (by omega)
theorem RdC.kept {S : Nat → Prop} {w W : World} {p : Nat} {A : Option Addr} {c : Nat} {bs : List UInt8} {k : Nat} {er bad : Int} (h : RdC w p A c bs k er bad) (hK : Kept S w W) (hS : ∀ j, S j → p < j) : RdC W p A c bs k er bad := by
  obtain ⟨h1, h2, h3, h4, h5⟩ := h
  have hp := lt_of_block h1
  refine ⟨(hK.block p hp (fun hs => by have := hS p hs; omega)).trans h1, h2.moveE (h3.imp id fun h3 ad hA => ?_), h3, h4, h5⟩
  have := h3 ad hA
  exact hK.block _ (by omega) (fun hs => by have := hS _ hs; omega)
theorem RdC.later {w W : World} {p : Nat} {A : Option Addr} {c : Nat} {bs : List UInt8} {k : Nat} {er bad : Int} (h : RdC w p A c bs k er bad) (hb : Below w.heap.size w W) : RdC W p A c bs k er bad := h.kept (Kept.of_below (fun _ => False) hb) (fun _ h => h.elim)
theorem RdAt.kept {G : Prop} {S : Nat → Prop} {w W : World} {p : Nat} {rest : List UInt8} (h : RdAt G w p rest) (hK : Kept S w W) (hS : ∀ j, S j → p < j) : RdAt G W p rest := by
  obtain ⟨A, c, bs, k, er, bad, h, h2⟩ := h
  exact ⟨A, c, bs, k, er, bad, h.kept hK hS, h2⟩
theorem RdAt.later {G : Prop} {w W : World} {p : Nat} {rest : List UInt8} (h : RdAt G w p rest) (hb : Below w.heap.size w W) : RdAt G W p rest := by
  obtain ⟨A, c, bs, k, er, bad, h, h2⟩ := h
  exact ⟨A, c, bs, k, er, bad, h.later hb, h2⟩
theorem RdAt.lt {G : Prop} {w : World} {p : Nat} {rest : List UInt8} (h : RdAt G w p rest) : p < w.heap.size := by
  obtain ⟨A, c, bs, k, er, bad, h, h2⟩ := h
  exact h.lt
theorem rof_any (G : Prop) (v : Value) (bs rest : List UInt8) (w : World) (h : RB w v bs) (hl : bs.length ≤ 100000) (hG : G → bs = rest) :
    Calls Tryz.prog 112 #[v] w fun e w' => ∃ p, e = .returned (.pointer (some ⟨p, 0, none⟩)) ∧ RdAt G w' p rest ∧ w.heap.size ≤ p ∧ Below w.heap.size w w' := by
  obtain ⟨A, c, rfl, hn, hc, hm, hr⟩ := id h
  have hR := Lib.hid h
  have hlt : Hid (bs = [] ∨ ∀ ad, A = some ad → ad.block < w.heap.size) := Lib.hid (by
    by_cases hb : bs = []
    · exact .inl hb
    · refine .inr fun ad hA => ?_
      subst hA
      exact hr.lt (fun h => hb (by have := congrArg List.length h; rw [u8s_length] at this; exact List.eq_nil_of_length_eq_zero this)))
  have hGG := Lib.hid hG
  clear h hr hn hG
  go_enter Tryz.func112, Tryz.ntmps112
  go_wp2_with fail
  go_ret
  exact ⟨_, rfl, ⟨A, c, bs, 0, 0, -1, ⟨heap_alloc_new w _, hR.out.below (below_alloc (Below.refl _ _) _), hlt.out, Nat.zero_le _, hl⟩, fun g => ⟨rfl, hGG.out g⟩⟩, Nat.le_refl _, below_alloc (Below.refl _ _) _⟩
theorem rwrong_any (p : Nat) (A : Option Addr) (c : Nat) (bs : List UInt8) (k : Nat) (er bad : Int) (x : Int) (w : World) (h : RdC w p A c bs k er bad) :
    Calls Tryz.prog 137 #[.pointer (some ⟨p, 0, none⟩), .int .i64 k, .int .i64 x] w fun e w' => e = .returned (.tuple #[]) ∧ RdC w' p A c bs k x k ∧ Kept (· = p) w w' := by
  have hI := Lib.hid h
  have x1 : w.cell? ⟨p, 1, none⟩ = some (.int .i64 k) := by rw [block_cell h.1]; rfl
  have x2 : w.cell? ⟨p, 2, none⟩ = some (.int .i64 er) := by rw [block_cell h.1]; rfl
  have x3 : w.cell? ⟨p, 3, none⟩ = some (.int .i64 bad) := by rw [block_cell h.1]; rfl
  have f1 : w.frozen? ⟨p, 1, none⟩ = false := block_free h.1 1
  have f2 : w.frozen? ⟨p, 2, none⟩ = false := block_free h.1 2
  have f3 : w.frozen? ⟨p, 3, none⟩ = false := block_free h.1 3
  have hW : (((w.setCell ⟨p, 2, none⟩ (.int .i64 x)).setCell ⟨p, 3, none⟩ (.int .i64 k)).setCell ⟨p, 1, none⟩ (.int .i64 k)).heap[p]? = some (.cells #[.slice A bs.length c, .int .i64 k, .int .i64 x, .int .i64 k] 211 (0, 0)) := by
    rw [block_setCell (block_setCell (block_setCell h.1 2 _) 3 _) 1]
    rfl
  have hK := Lib.hid (Kept.setCell (S := (· = p)) (p := ⟨p, 1, none⟩) (Kept.setCell (S := (· = p)) (p := ⟨p, 3, none⟩) (Kept.setCell (S := (· = p)) (p := ⟨p, 2, none⟩) (Kept.refl _ w) (.inl rfl) (.int .i64 x)) (.inl rfl) (.int .i64 k)) (.inl rfl) (.int .i64 k))
  have hEnd := Lib.hid (h.step hW hK.out h.2.2.2.1)
  clear hW h
  go_enter Tryz.func137, Tryz.ntmps137
  go_wp2_with fail
  refine ⟨rfl, .tuple #[], ?_, rfl, hEnd.out, hK.out⟩
  simp [results, Tryz.results137, go_sem]
def RNatS (G : Prop) (n : Nat) (rest : List UInt8) (p : Nat) (w : World) (e : Ending) (w' : World) : Prop :=
  ∃ m : Nat, e = .returned (.int .u64 m) ∧ m < 18446744073709551616 ∧ (G → m = n) ∧ RdAt G w' p rest ∧ Kept (· = p) w w'
theorem rNat_any (G : Prop) (n : Nat) (rest : List UInt8) (p : Nat) (w : World) (h : RdAt G w p (natB n ++ rest)) (hn : G → n < 18446744073709551616) :
    Calls Tryz.prog 114 #[.pointer (some ⟨p, 0, none⟩)] w (RNatS G n rest p w) := by
  obtain ⟨A, c, bs, k, er, bad, h, hg⟩ := h
  have x0 : w.cell? ⟨p, 0, none⟩ = some (.slice A bs.length c) := by rw [block_cell h.1]; rfl
  have x1 : w.cell? ⟨p, 1, none⟩ = some (.int .i64 k) := by rw [block_cell h.1]; rfl
  have x2 : w.cell? ⟨p, 2, none⟩ = some (.int .i64 er) := by rw [block_cell h.1]; rfl
  have f1 : w.frozen? ⟨p, 1, none⟩ = false := block_free h.1 1
  have hI := Lib.hid h
  have hk := h.2.2.2.1
  have hl := h.2.2.2.2
  have hGH := Lib.hid hg
  have hNN := Lib.hid hn
  have hb := Lib.hid h.1
  clear h hg hn
  by_cases her : er = 0
  case neg =>
    have d1 : (er != 0) = true := by simpa using her
    have hE : Hid (¬ G) := Lib.hid (fun g => her (hGH.out g).1)
    clear her
    go_enter Tryz.func114, Tryz.ntmps114
    go_wp2_with fail
    go_ret
    exact ⟨0, rfl, by decide, fun g => absurd g hE.out, ⟨A, c, bs, k, er, bad, hI.out, fun g => absurd g hE.out⟩, Kept.refl _ _⟩
  subst her
  go_enter Tryz.func114, Tryz.ntmps114
  go_wp2_with fail
  refine (rin_nat p A c bs k _ x0 hI.out.2.1 hk hl).mono ?_
  rintro e w1 ⟨m, L, rfl, hm, hkL, hL9, hsp, rfl⟩
  have hM := Lib.hid hm
  have hSP := Lib.hid hsp
  clear hm hsp
  by_cases hL : L = 0
  · subst hL
    have hE : Hid (¬ G) := Lib.hid (fun g => by
      have h1 := (hSP.out n rest (hNN.out g) (hGH.out g).2).2
      simp [natB] at h1)
    go_wp2_with fail
    refine (rwrong_any p A c bs k 0 bad 6 _ hI.out).mono ?_
    rintro e w2 ⟨rfl, hI2_, hK2_⟩
    have hI2 := Lib.hid hI2_
    have hK2 := Lib.hid hK2_
    clear hI2_ hK2_
    go_wp2_with fail
    go_ret
    exact ⟨0, rfl, by decide, fun g => absurd g hE.out, ⟨A, c, bs, k, 6, k, hI2.out, fun g => absurd g hE.out⟩, hK2.out⟩
  · have dL : ((L : Int) == 0) = false := by simp; omega
    have wk : IntKind.i64.wrap ((k : Int) + L) = (k : Int) + L := by rw [IntKind.wrap_i64]; omega
    have hW : (w1.setCell ⟨p, 1, none⟩ (.int .i64 ((k : Int) + L))).heap[p]? = some (.cells #[.slice A bs.length c, .int .i64 ((k + L : Nat) : Int), .int .i64 0, .int .i64 bad] 211 (0, 0)) := by
      rw [block_setCell hb.out 1]
      push_cast
      rfl
    have hK := Lib.hid (Kept.setCell (S := (· = p)) (p := ⟨p, 1, none⟩) (Kept.refl _ w1) (.inl rfl) (.int .i64 ((k : Int) + L)))
    have hEnd := Lib.hid (hI.out.step hW hK.out hkL)
    clear hW hL
    go_wp2_with fail
    go_ret
    refine ⟨m, rfl, hM.out, fun g => (hSP.out n rest (hNN.out g) (hGH.out g).2).1, ⟨A, c, bs, k + L, 0, bad, hEnd.out, fun g => ⟨rfl, ?_⟩⟩, hK.out⟩
    have h1 := (hGH.out g).2
    have h2 := (hSP.out n rest (hNN.out g) h1).2
    rw [← List.drop_drop, h1, h2, List.drop_left' rfl]
theorem rsmall_any (G : Prop) (n : Nat) (rest : List UInt8) (p : Nat) (w : World) (h : RdAt G w p (natB n ++ rest)) (hn : G → n ≤ 1073741824) :
    Calls Tryz.prog 113 #[.pointer (some ⟨p, 0, none⟩)] w fun e w' => ∃ r : Int, e = .returned (.int .i64 r) ∧ (0 ≤ r ∧ r ≤ 1073741824) ∧ (G → r = n) ∧ RdAt G w' p rest ∧ Kept (· = p) w w' := by
  have hI := Lib.hid h
  have hNN := Lib.hid hn
  clear h hn
  go_enter Tryz.func113, Tryz.ntmps113
  go_wp2_with fail
  refine (rNat_any G n rest p _ hI.out (fun g => by have := hNN.out g; omega)).mono ?_
  rintro e w1 ⟨m, rfl, hm, hmn, hI1_, hK1_⟩
  have hI1 := Lib.hid hI1_
  have hK1 := Lib.hid hK1_
  have hMN := Lib.hid hmn
  clear hI1_ hK1_ hmn
  by_cases hb : 1073741824 < m
  · have d1 : decide ((1073741824 : Int) < m) = true := by simp; omega
    have hE : Hid (¬ G) := Lib.hid (fun g => by have h1 := hMN.out g; have h2 := hNN.out g; omega)
    clear hb
    go_wp2_with fail
    go_ret
    exact ⟨_, rfl, by omega, fun g => absurd g hE.out, hI1.out, hK1.out⟩
  · have d1 : decide ((1073741824 : Int) < m) = false := by simp; omega
    go_wp2_with fail
    go_ret
    exact ⟨_, rfl, by omega, fun g => by rw [hMN.out g], hI1.out, hK1.out⟩
theorem unzig_zig (n : Int) : unzig (zig n) = n := by
  unfold unzig zig
  split <;> split <;> omega
theorem rNum_any (G : Prop) (n : Int) (rest : List UInt8) (p : Nat) (w : World) (h : RdAt G w p (numB n ++ rest)) (hn : G → i64ok n) :
    Calls Tryz.prog 115 #[.pointer (some ⟨p, 0, none⟩)] w fun e w' => ∃ r : Int, e = .returned (.int .i64 r) ∧ i64ok r ∧ (G → r = n) ∧ RdAt G w' p rest ∧ Kept (· = p) w w' := by
  have hI := Lib.hid h
  have hNN := Lib.hid hn
  clear h hn
  go_enter Tryz.func115, Tryz.ntmps115
  go_wp2_with fail
  refine (rNat_any G (zig n) rest p _ hI.out (fun g => by obtain ⟨h1, h2⟩ := hNN.out g; exact zig_lt h1 h2)).mono ?_
  rintro e w1 ⟨m, rfl, hm, hmn, hI1_, hK1_⟩
  have hI1 := Lib.hid hI1_
  have hK1 := Lib.hid hK1_
  have hMN : Hid (G → unzig m = n) := Lib.hid (fun g => by rw [hmn g, unzig_zig])
  have hok := Lib.hid (unzig_ok hm)
  clear hI1_ hK1_ hmn
  by_cases hb : m % 2 = 1
  · have d1 : ((m : Int) % 2 == 1) = true := by simp; omega
    have w1 : IntKind.i64.wrap ((m : Int) / 2) = (m : Int) / 2 := by rw [IntKind.wrap_i64]; omega
    have w2 : IntKind.i64.wrap (-1 - (m : Int) / 2) = -1 - (m : Int) / 2 := by rw [IntKind.wrap_i64]; omega
    have hu : Hid (-1 - (m : Int) / 2 = unzig m) := Lib.hid (by unfold unzig; rw [if_neg (by omega)]; omega)
    clear hb
    go_wp2_with fail
    go_ret
    exact ⟨unzig m, ret_int hu.out, hok.out, hMN.out, hI1.out, hK1.out⟩
  · have d1 : ((m : Int) % 2 == 1) = false := by simp; omega
    have w1 : IntKind.i64.wrap ((m : Int) / 2) = (m : Int) / 2 := by rw [IntKind.wrap_i64]; omega
    have hu : Hid ((m : Int) / 2 = unzig m) := Lib.hid (by unfold unzig; rw [if_pos (by omega)]; omega)
    clear hb
    go_wp2_with fail
    go_ret
    exact ⟨unzig m, ret_int hu.out, hok.out, hMN.out, hI1.out, hK1.out⟩
theorem rEnd_any (G : Prop) (p : Nat) (w : World) (h : RdAt G w p []) :
    Calls Tryz.prog 118 #[.pointer (some ⟨p, 0, none⟩)] w fun e w' => ∃ r : Int, e = .returned (.int .i64 r) ∧ (G → r = 0) ∧ Kept (· = p) w w' := by
  obtain ⟨A, c, bs, k, er, bad, h, hg⟩ := h
  have x0 : w.cell? ⟨p, 0, none⟩ = some (.slice A bs.length c) := by rw [block_cell h.1]; rfl
  have x1 : w.cell? ⟨p, 1, none⟩ = some (.int .i64 k) := by rw [block_cell h.1]; rfl
  have x2 : w.cell? ⟨p, 2, none⟩ = some (.int .i64 er) := by rw [block_cell h.1]; rfl
  have hI := Lib.hid h
  have hk := h.2.2.2.1
  have hl := h.2.2.2.2
  have hGH := Lib.hid hg
  clear h hg
  by_cases her : er = 0
  case neg =>
    have d1 : (er == 0) = false := by simpa using her
    have hE : Hid (¬ G) := Lib.hid (fun g => her (hGH.out g).1)
    clear her
    go_enter Tryz.func118, Tryz.ntmps118
    go_wp2_with fail
    go_quiet (fail)
    go_wp2_with fail
    go_ret
    exact ⟨er, rfl, fun g => absurd g hE.out, (Kept.refl _ w).drewN _⟩
  subst her
  by_cases hkl : k < bs.length
  · have d1 : decide ((k : Int) < bs.length) = true := by simp; omega
    have hE : Hid (¬ G) := Lib.hid (fun g => by
      have h1 := congrArg List.length (hGH.out g).2
      simp at h1
      omega)
    go_enter Tryz.func118, Tryz.ntmps118
    go_wp2_with fail
    go_quiet (fail)
    have hq := Lib.hid (below_drewN (Below.refl w.heap.size w) nq)
    go_wp2_with fail
    refine (rwrong_any p A c bs k 0 bad 6 _ (hI.out.later hq.out)).mono ?_
    rintro e w2 ⟨rfl, hI2_, hK2_⟩
    have y2 : w2.cell? ⟨p, 2, none⟩ = some (.int .i64 6) := by rw [block_cell hI2_.1]; rfl
    have hK2 := Lib.hid ((Kept.of_below (· = p) hq.out).trans hK2_ (fun _ _ h => h))
    clear hI2_ hK2_
    go_wp2_with fail
    go_ret
    exact ⟨6, rfl, fun g => absurd g hE.out, hK2.out⟩
  · have d1 : decide ((k : Int) < bs.length) = false := by simp; omega
    go_enter Tryz.func118, Tryz.ntmps118
    go_wp2_with fail
    go_quiet (fail)
    go_wp2_with fail
    go_ret
    exact ⟨0, rfl, fun _ => rfl, (Kept.refl _ w).drewN _⟩
def RStrS (G : Prop) (s0 : List UInt8) (rest : List UInt8) (most : Nat) (p : Nat) (w : World) (e : Ending) (w' : World) : Prop :=
  ∃ s : List UInt8, e = .returned (.string ⟨s.toArray⟩) ∧ s.length ≤ most ∧ (G → s = s0) ∧ RdAt G w' p rest ∧ Kept (· = p) w w'
set_option maxHeartbeats 2000000 in
theorem rStr_any (G : Prop) (s0 rest : List UInt8) (most : Nat) (p : Nat) (w : World) (h : RdAt G w p (strB s0 ++ rest)) (hs : G → s0.length ≤ most) (hm : most ≤ 1000000) :
    Calls Tryz.prog 116 #[.pointer (some ⟨p, 0, none⟩), .int .i64 most] w (RStrS G s0 rest most p w) := by
  obtain ⟨A, c, bs, k, er, bad, h, hg⟩ := h
  have x0 : w.cell? ⟨p, 0, none⟩ = some (.slice A bs.length c) := by rw [block_cell h.1]; rfl
  have x1 : w.cell? ⟨p, 1, none⟩ = some (.int .i64 k) := by rw [block_cell h.1]; rfl
  have x2 : w.cell? ⟨p, 2, none⟩ = some (.int .i64 er) := by rw [block_cell h.1]; rfl
  have f1 : w.frozen? ⟨p, 1, none⟩ = false := block_free h.1 1
  have hI := Lib.hid h
  have hk := h.2.2.2.1
  have hl := h.2.2.2.2
  have hGH : Hid (G → er = 0 ∧ bs.drop k = natB s0.length ++ (s0 ++ rest) ∧ s0.length ≤ most) := Lib.hid (fun g => ⟨(hg g).1, by rw [(hg g).2, strB, List.append_assoc], hs g⟩)
  have hb := Lib.hid h.1
  have hRB := Lib.hid h.2.1
  have dm : decide ((most : Int) < 0) = false := by simp
  have em : Hid (RStrS G s0 rest most p w = RStrS G s0 rest most p w) := Lib.hid rfl
  have e0 : (⟨#[]⟩ : ByteArray) = ⟨([] : List UInt8).toArray⟩ := rfl
  clear h hg hs
  by_cases her : er = 0
  case neg =>
    have d1 : (er != 0) = true := by simpa using her
    have hE : Hid (¬ G) := Lib.hid (fun g => her (hGH.out g).1)
    clear her
    go_enter Tryz.func116, Tryz.ntmps116
    go_wp2_with fail
    go_ret
    exact ⟨[], rfl, by simp, fun g => absurd g hE.out, ⟨A, c, bs, k, er, bad, hI.out, fun g => absurd g hE.out⟩, Kept.refl _ _⟩
  subst her
  go_enter Tryz.func116, Tryz.ntmps116
  go_wp2_with fail
  refine (rin_nat p A c bs k _ x0 hI.out.2.1 hk hl).mono ?_
  rintro e w1 ⟨n, L, rfl, hn, hkL, hL9, hsp, rfl⟩
  have hN := Lib.hid hn
  have hSP : Hid (G → n = s0.length ∧ L = (natB s0.length).length) := Lib.hid (fun g => hsp s0.length (s0 ++ rest) (by have := (hGH.out g).2.2; omega) (hGH.out g).2.1)
  clear hn hsp
  by_cases hL : L = 0
  · subst hL
    have hE : Hid (¬ G) := Lib.hid (fun g => by
      have h1 := (hSP.out g).2
      simp [natB] at h1)
    go_wp2_with fail
    refine (rwrong_any p A c bs k 0 bad 6 _ hI.out).mono ?_
    rintro e w2 ⟨rfl, hI2_, hK2_⟩
    have hI2 := Lib.hid hI2_
    have hK2 := Lib.hid hK2_
    clear hI2_ hK2_
    go_wp2_with fail
    go_ret
    exact ⟨[], rfl, by simp, fun g => absurd g hE.out, ⟨A, c, bs, k, 6, k, hI2.out, fun g => absurd g hE.out⟩, hK2.out⟩
  have dL : ((L : Int) == 0) = false := by simp; omega
  by_cases hnm : most < n
  · have d3 : decide (most < n) = true := by simpa using hnm
    have hE : Hid (¬ G) := Lib.hid (fun g => by
      have h1 := (hSP.out g).1
      have h2 := (hGH.out g).2.2
      omega)
    clear hnm
    go_wp2_with fail
    refine (rwrong_any p A c bs k 0 bad 7 _ hI.out).mono ?_
    rintro e w2 ⟨rfl, hI2_, hK2_⟩
    have hI2 := Lib.hid hI2_
    have hK2 := Lib.hid hK2_
    clear hI2_ hK2_
    go_wp2_with fail
    go_ret
    exact ⟨[], rfl, by simp, fun g => absurd g hE.out, ⟨A, c, bs, k, 7, k, hI2.out, fun g => absurd g hE.out⟩, hK2.out⟩
  have d3 : decide (most < n) = false := by simpa using hnm
  have wr1 : IntKind.i64.wrap ((bs.length : Int) - k) = (bs.length : Int) - k := by rw [IntKind.wrap_i64]; omega
  have wr2 : IntKind.i64.wrap ((bs.length : Int) - k - L) = (bs.length : Int) - k - L := by rw [IntKind.wrap_i64]; omega
  have wr3 : IntKind.u64.wrap ((bs.length : Int) - k - L) = (bs.length : Int) - k - L := by rw [IntKind.wrap_u64]; omega
  by_cases hfit : (bs.length : Int) - k - L < n
  · have d4 : decide ((bs.length : Int) - k - L < n) = true := by simpa using hfit
    have hE : Hid (¬ G) := Lib.hid (fun g => by
      have h1 := hSP.out g
      have h2 := congrArg List.length (hGH.out g).2.1
      simp only [List.length_drop, List.length_append] at h2
      omega)
    clear hfit
    go_wp2_with fail
    go_quiet (fail)
    have hq := Lib.hid (below_drewN (Below.refl w1.heap.size w1) nq)
    go_wp2_with fail
    refine (rwrong_any p A c bs k 0 bad 6 _ (hI.out.later hq.out)).mono ?_
    rintro e w2 ⟨rfl, hI2_, hK2_⟩
    have hI2 := Lib.hid hI2_
    have hK2 := Lib.hid ((Kept.of_below (· = p) hq.out).trans hK2_ (fun _ _ h => h))
    clear hI2_ hK2_
    go_wp2_with fail
    go_ret
    exact ⟨[], rfl, by simp, fun g => absurd g hE.out, ⟨A, c, bs, k, 6, k, hI2.out, fun g => absurd g hE.out⟩, hK2.out⟩
  have d4 : decide ((bs.length : Int) - k - L < n) = false := by simpa using hfit
  go_wp2_with fail
  go_quiet (fail)
  clear d3 d4 wr1 wr2 wr3 dm dL
  obtain ⟨ad, rfl⟩ : ∃ ad, A = some ad := by
    obtain ⟨A', c', he, hnil, hc, hmx, hrow⟩ := hRB.out
    cases he
    cases A with
    | none =>
      have := hnil rfl
      omega
    | some ad => exact ⟨ad, rfl⟩
  have hcc : bs.length ≤ c ∧ c ≤ maxLen := by
    obtain ⟨A', c', he, hnil, hc, hmx, hrow⟩ := hRB.out
    cases he
    exact ⟨hc, hmx⟩
  unfold maxLen at hcc
  have hnk : k + L + n ≤ bs.length := by omega
  have wr4 : IntKind.i64.wrap ((k : Int) + L) = (k : Int) + L := by rw [IntKind.wrap_i64]; omega
  have wr5 : IntKind.i64.wrap (n : Int) = n := by rw [IntKind.wrap_i64]; omega
  have wr6 : IntKind.i64.wrap ((k : Int) + L + n) = (k : Int) + L + n := by rw [IntKind.wrap_i64]; omega
  have wr7 : IntKind.i64.wrap ((L : Int) + n) = (L : Int) + n := by rw [IntKind.wrap_i64]; omega
  have wr8 : IntKind.i64.wrap ((k : Int) + ((L : Int) + n)) = (k : Int) + ((L : Int) + n) := by rw [IntKind.wrap_i64]; omega
  have q1 : (0 : Int) ≤ (k : Int) + L := by omega
  have q2 : (k : Int) + L ≤ (k : Int) + L + n := by omega
  have q3 : (k : Int) + L + n ≤ c := by omega
  have q4 : ((k : Int) + L).toNat = k + L := by omega
  have q5 : ((k : Int) + L + n).toNat = k + L + n := by omega
  obtain ⟨s, hsd⟩ : ∃ s, (bs.drop (k + L)).take n = s := ⟨_, rfl⟩
  have hsl : s.length = n := by rw [← hsd, List.length_take, List.length_drop]; omega
  have hSL := Lib.hid hsl
  have hSD := Lib.hid hsd
  have hW : ∀ W : World, W.heap[p]? = some (.cells #[.slice (some ad) bs.length c, .int .i64 k, .int .i64 0, .int .i64 bad] 211 (0, 0)) → (W.setCell ⟨p, 1, none⟩ (.int .i64 ((k : Int) + ((L : Int) + n)))).heap[p]? = some (.cells #[.slice (some ad) bs.length c, .int .i64 ((k + L + n : Nat) : Int), .int .i64 0, .int .i64 bad] 211 (0, 0)) := fun W hW => by
    rw [block_setCell hW 1]
    push_cast
    rw [Int.add_assoc]
    rfl
  have hFin : Hid (∀ m, RStrS G s0 rest most p w1 (.returned (.string ⟨s.toArray⟩)) ((w1.drewN m).setCell ⟨p, 1, none⟩ (.int .i64 ((k : Int) + ((L : Int) + n))))) := Lib.hid (fun m => by
    have hK := (Kept.setCell (S := (· = p)) (p := ⟨p, 1, none⟩) ((Kept.refl _ w1).drewN m) (.inl rfl) (.int .i64 ((k : Int) + ((L : Int) + n))))
    refine ⟨s, rfl, by rw [hsl]; omega, fun g => ?_, ⟨_, _, _, k + L + n, 0, bad, hI.out.step (hW _ hb.out) hK hnk, fun g => ⟨rfl, ?_⟩⟩, hK⟩
    · have h1 := (hGH.out g).2.1
      have h2 := hSP.out g
      rw [← hsd, ← List.drop_drop, h1, h2.2, List.drop_left' rfl, h2.1, List.take_left' rfl]
    · have h1 := (hGH.out g).2.1
      have h2 := hSP.out g
      rw [← List.drop_drop, ← List.drop_drop, h1, h2.2, List.drop_left' rfl, h2.1, List.drop_left' rfl])
  clear hsl hsd hW hnk
  by_cases hcl : c = k + L
  · have hcv : ∀ m, (convert 51 9 (.slice (some ad) n 0)).run Tryz.prog (w1.drewN m) = .ok (.string ⟨s.toArray⟩) (w1.drewN m) := fun m => by
      have hn0 : n = 0 := by omega
      have hs0 : s = [] := List.eq_nil_of_length_eq_zero (by rw [hSL.out]; exact hn0)
      subst hs0
      exact run_conv_BS ⟨some ad, 0, by rw [hn0]; rfl, fun h => (by cases h), by simp, by simp, RowAt.nil _ _⟩
    have hcv2 : Hid (∀ m, (convert 51 9 (.slice (some ad) n 0)).run Tryz.prog ((w1.drewN nq).drewN m) = .ok (.string ⟨s.toArray⟩) ((w1.drewN nq).drewN m)) := Lib.hid (fun m => by rw [World.drewN_drewN]; exact hcv _)
    clear hcv
    have y0 : (w1.drewN nq).cell? ⟨p, 0, none⟩ = some (.slice (some ad) bs.length c) := x0
    have y1 : (w1.drewN nq).cell? ⟨p, 1, none⟩ = some (.int .i64 k) := x1
    have y2 : (w1.drewN nq).cell? ⟨p, 2, none⟩ = some (.int .i64 0) := x2
    have g1 : (w1.drewN nq).frozen? ⟨p, 1, none⟩ = false := f1
    have hFin2 : Hid (∀ m, RStrS G s0 rest most p w1 (.returned (.string ⟨s.toArray⟩)) (((w1.drewN nq).drewN m).setCell ⟨p, 1, none⟩ (.int .i64 ((k : Int) + ((L : Int) + n))))) := Lib.hid (fun m => by rw [World.drewN_drewN]; exact hFin.out _)
    generalize w1.drewN nq = wq at *
    go_wp2_with fail
    have hcv := hcv2.out
    go_quiet (fail)
    clear hcv
    have z1 : (wq.drewN nq).cell? ⟨p, 1, none⟩ = some (.int .i64 k) := y1
    have z2 : (wq.drewN nq).frozen? ⟨p, 1, none⟩ = false := g1
    have hF := Lib.hid (hFin2.out nq)
    generalize wq.drewN nq = wz at *
    go_wp2_with fail
    go_ret
    exact hF.out
  · have hcv : ∀ m, (convert 51 9 (.slice (some (ad.add (k + L))) n (c - (k + L)))).run Tryz.prog (w1.drewN m) = .ok (.string ⟨s.toArray⟩) (w1.drewN m) := fun m => run_conv_BS ((show RB (w1.drewN m) (.slice (some ad) bs.length c) bs from hRB.out.below (below_drewN (Below.refl _ _) _)).sub (k + L) n (by have := hSL.out; omega) rfl rfl rfl hSD.out)
    have hcv2 : Hid (∀ m, (convert 51 9 (.slice (some (ad.add (k + L))) n (c - (k + L)))).run Tryz.prog ((w1.drewN nq).drewN m) = .ok (.string ⟨s.toArray⟩) ((w1.drewN nq).drewN m)) := Lib.hid (fun m => by rw [World.drewN_drewN]; exact hcv _)
    clear hcv
    have y0 : (w1.drewN nq).cell? ⟨p, 0, none⟩ = some (.slice (some ad) bs.length c) := x0
    have y1 : (w1.drewN nq).cell? ⟨p, 1, none⟩ = some (.int .i64 k) := x1
    have y2 : (w1.drewN nq).cell? ⟨p, 2, none⟩ = some (.int .i64 0) := x2
    have g1 : (w1.drewN nq).frozen? ⟨p, 1, none⟩ = false := f1
    have hFin2 : Hid (∀ m, RStrS G s0 rest most p w1 (.returned (.string ⟨s.toArray⟩)) (((w1.drewN nq).drewN m).setCell ⟨p, 1, none⟩ (.int .i64 ((k : Int) + ((L : Int) + n))))) := Lib.hid (fun m => by rw [World.drewN_drewN]; exact hFin.out _)
    generalize w1.drewN nq = wq at *
    go_wp2_with fail
    have hcv := hcv2.out
    go_quiet (fail)
    clear hcv
    have z1 : (wq.drewN nq).cell? ⟨p, 1, none⟩ = some (.int .i64 k) := y1
    have z2 : (wq.drewN nq).frozen? ⟨p, 1, none⟩ = false := g1
    have hF := Lib.hid (hFin2.out nq)
    generalize wq.drewN nq = wz at *
    go_wp2_with fail
    go_ret
    exact hF.out
end Go.Proofs.YteeiacfddjhhkaaGreatDoor
