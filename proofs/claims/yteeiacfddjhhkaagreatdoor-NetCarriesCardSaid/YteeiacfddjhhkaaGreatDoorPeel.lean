/- crc.Peel, crc.One: the body of a frame. -/
import Derived.Test.YteeiacfddjhhkaaGreatDoorEq
import Derived.Laws.BitsAllLaws
namespace Go.Proofs.YteeiacfddjhhkaaGreatDoor
open Go.RowKit
set_option maxRecDepth 100000

theorem i64_or_small (a b : Nat) (ha : a < 65536) (hb : b < 65536) : bits .or .i64 (a : Int) (b : Int) = ((a ||| b : Nat) : Int) := by
  have hx : a ||| b < 2 ^ 16 := Nat.or_lt_two_pow (by omega) (by omega)
  show IntKind.i64.wrap ((BitVec.ofInt 64 (a : Int) ||| BitVec.ofInt 64 (b : Int)).toNat : Int) = _
  rw [BitVec.toNat_or, ofInt_u64 a (by omega), ofInt_u64 b (by omega), IntKind.wrap_i64]
  omega
theorem or_256 (x c : Nat) (hc : c < 256) : x * 256 ||| c = x * 256 + c := by
  have h := Nat.two_pow_add_eq_or_of_lt (i := 8) (b := c) (by omega) x
  rw [Nat.mul_comm x 256]
  exact h.symm
/-- What is there ahead, a frame and its body. -/
def frameAt (bs p rest : List UInt8) : Prop := p.length ≤ 16384 ∧ bs = wrapB p ++ rest
/-- What Peel finds. -/
def PeelRet (w : World) (bs : List UInt8) (e : Ending) (w' : World) : Prop :=
  (∃ p rest A c, frameAt bs p rest ∧ e = .returned (.tuple #[.slice A p.length c, .int .i64 ((p.length : Int) + 7)]) ∧ OB w' w.heap.size (.slice A p.length c) p ∧ Below w.heap.size w w') ∨
  ((∀ p rest, ¬ frameAt bs p rest) ∧ e = .returned (.tuple #[.slice none 0 0, .int .i64 0]) ∧ Below w.heap.size w w')
theorem frame_len {bs p rest : List UInt8} (h : frameAt bs p rest) : bs.length = p.length + 7 + rest.length := by
  rw [h.2, List.length_append, wrapB_length]
theorem frame_0 {bs p rest : List UInt8} (h : frameAt bs p rest) : bs[0]? = some 167 := by rw [h.2]; simp [wrapB, headB]
theorem frame_12 {bs p rest : List UInt8} {x y : UInt8} (h : frameAt bs p rest) (hx : bs[1]? = some x) (hy : bs[2]? = some y) : x.toNat * 256 + y.toNat = p.length := by
  have h1 := h.1
  rw [h.2] at hx hy
  simp [wrapB, headB] at hx hy
  rw [← hx, ← hy, UInt8.toNat_ofNat', UInt8.toNat_ofNat']
  omega
theorem RB.sub {w : World} {ad ad' : Addr} {c c' m' : Nat} {bs rs : List UInt8} (h : RB w (.slice (some ad) bs.length c) bs) (lo m : Nat) (hm : lo + m ≤ bs.length) (e1 : m' = m) (e2 : c' = c - lo) (e3 : ad' = ad.add lo) (e4 : (bs.drop lo).take m = rs) : RB w (.slice (some ad') m' c') rs := by
  obtain ⟨A', cc, he, _, hc, hmx, hrow⟩ := h
  cases he
  subst e1 e2 e3 e4
  have hlen : ((bs.drop lo).take m').length = m' := by rw [List.length_take, List.length_drop]; omega
  refine ⟨_, _, by rw [hlen], fun h => (by cases h), by omega, by omega, ?_⟩
  have h3 := (hrow.drop lo).take m'
  rw [u8s, ← List.map_drop, ← List.map_take] at h3
  exact h3
theorem bs_three {bs : List UInt8} {b0 b1 b2 : UInt8} (h0 : bs[0]? = some b0) (h1 : bs[1]? = some b1) (h2 : bs[2]? = some b2) : ∃ t, bs = b0 :: b1 :: b2 :: t := by
  match bs, h0, h1, h2 with
  | x :: y :: z :: t, h0, h1, h2 =>
    simp at h0 h1 h2
    exact ⟨t, by rw [h0, h1, h2]⟩
  | [], h0, _, _ => simp at h0
  | [x], _, h1, _ => simp at h1
  | [x, y], _, _, h2 => simp at h2
theorem head_take {bs : List UInt8} {b1 b2 : UInt8} {n : Nat} (h0 : bs[0]? = some 167) (h1 : bs[1]? = some b1) (h2 : bs[2]? = some b2) (hn : b1.toNat * 256 + b2.toNat = n) : bs.take (n + 3) = headB n ++ (bs.drop 3).take n := by
  obtain ⟨t, rfl⟩ := bs_three h0 h1 h2
  have l1 := b1.toNat_lt
  have l2 := b2.toNat_lt
  have g1 : UInt8.ofNat (n / 256) = b1 := UInt8.toNat_inj.1 (by rw [UInt8.toNat_ofNat']; omega)
  have g2 : UInt8.ofNat n = b2 := UInt8.toNat_inj.1 (by rw [UInt8.toNat_ofNat']; omega)
  simp [headB, g1, g2]
theorem peel_yes {bs : List UInt8} {b1 b2 : UInt8} {n : Nat} (h0 : bs[0]? = some 167) (h1 : bs[1]? = some b1) (h2 : bs[2]? = some b2) (hn : b1.toNat * 256 + b2.toNat = n) (hm : n ≤ 16384) (hl : n + 7 ≤ bs.length)
    (he : (bs.drop (n + 3)).take 4 = tailB (crcSum (bs.take (n + 3)))) : frameAt bs ((bs.drop 3).take n) (bs.drop (n + 7)) ∧ ((bs.drop 3).take n).length = n := by
  have hlen : ((bs.drop 3).take n).length = n := by rw [List.length_take, List.length_drop]; omega
  refine ⟨⟨by omega, ?_⟩, hlen⟩
  unfold wrapB
  rw [hlen, ← head_take h0 h1 h2 hn, ← he, show bs.drop (n + 7) = (bs.drop (n + 3)).drop 4 by rw [List.drop_drop], List.append_assoc, List.take_append_drop, List.take_append_drop]
theorem peel_no {bs : List UInt8} {n : Nat} (hp : ∀ p rest, frameAt bs p rest → p.length = n) (he : (bs.drop (n + 3)).take 4 ≠ tailB (crcSum (bs.take (n + 3)))) : ∀ p rest, ¬ frameAt bs p rest := by
  intro p rest hf
  have hn := hp p rest hf
  have h3 : (headB p.length ++ p).length = n + 3 := by simp [headB, hn]
  obtain ⟨_, hb⟩ := hf
  unfold wrapB at hb
  apply he
  rw [hb, List.append_assoc, List.drop_left' h3, List.take_left' h3, List.take_left' (by simp [tailB])]
theorem peel_any (v : Value) (bs : List UInt8) (w : World) (h : RB w v bs) (hl : bs.length ≤ 100000) :
    Calls Tryz.prog 65 #[v] w (PeelRet w bs) := by
  obtain ⟨A, c, hv, hnil, hc, hmx, hrow⟩ := id h
  have hR := Lib.hid h
  clear h
  subst hv
  by_cases h7 : (bs.length : Int) < 7
  · have hd : decide ((bs.length : Int) < 7) = true := by simpa using h7
    have hno : Hid (∀ p rest, ¬ frameAt bs p rest) := Lib.hid (fun p rest hf => by have := frame_len hf; omega)
    go_enter Tryz.func65, Tryz.ntmps65
    go_wp2_with fail
    refine bodyPost_ret (v := .tuple #[.slice none 0 0, .int .i64 0]) ?_ rfl (.inr ⟨hno.out, rfl, Below.refl _ _⟩)
    simp [results, Tryz.results65, go_sem]
  have hd : decide ((bs.length : Int) < 7) = false := by simpa using h7
  obtain ⟨ad, rfl, hc0⟩ := hR.out.at_ (i := 0) (by omega)
  obtain ⟨ad', h', hc1⟩ := hR.out.at_ (i := 1) (by omega)
  cases h'
  obtain ⟨ad', h', hc2⟩ := hR.out.at_ (i := 2) (by omega)
  cases h'
  rw [show ad.add 0 = ad from rfl] at hc0
  obtain ⟨b0, hb0⟩ : ∃ b, bs[0]'(by omega) = b := ⟨_, rfl⟩
  obtain ⟨b1, hb1⟩ : ∃ b, bs[1]'(by omega) = b := ⟨_, rfl⟩
  obtain ⟨b2, hb2⟩ : ∃ b, bs[2]'(by omega) = b := ⟨_, rfl⟩
  have e0 : Hid (bs[0]? = some b0) := Lib.hid (by rw [List.getElem?_eq_getElem (by omega), hb0])
  have e1 : Hid (bs[1]? = some b1) := Lib.hid (by rw [List.getElem?_eq_getElem (by omega), hb1])
  have e2 : Hid (bs[2]? = some b2) := Lib.hid (by rw [List.getElem?_eq_getElem (by omega), hb2])
  rw [hb0] at hc0
  rw [hb1] at hc1
  rw [hb2] at hc2
  clear hb0 hb1 hb2 hnil hrow
  have i0 : (0 : Int) < bs.length := by omega
  have i1 : (1 : Int) < bs.length := by omega
  have i2 : (2 : Int) < bs.length := by omega
  have hc1' : w.cell? ⟨ad.block, ad.off + 1, none⟩ = some (.int .u8 (b1.toNat : Int)) := hc1
  have hc2' : w.cell? ⟨ad.block, ad.off + 2, none⟩ = some (.int .u8 (b2.toNat : Int)) := hc2
  by_cases h167 : (b0.toNat : Int) = 167
  case neg =>
    have hne : ((b0.toNat : Int) != 167) = true := by simpa using h167
    have hno : Hid (∀ p rest, ¬ frameAt bs p rest) := Lib.hid (fun p rest hf => by
      have := frame_0 hf
      rw [e0.out] at this
      simp at this
      subst this
      exact h167 rfl)
    go_enter Tryz.func65, Tryz.ntmps65
    go_wp2_with fail
    refine bodyPost_ret (v := .tuple #[.slice none 0 0, .int .i64 0]) ?_ rfl (.inr ⟨hno.out, rfl, Below.refl _ _⟩)
    simp [results, Tryz.results65, go_sem]
  have hne : ((b0.toNat : Int) != 167) = false := by simpa using h167
  have e00 : Hid (bs[0]? = some 167) := Lib.hid (by rw [e0.out]; congr 1; exact UInt8.toNat_inj.1 (by show b0.toNat = 167; omega))
  have l1 := b1.toNat_lt
  have l2 := b2.toNat_lt
  obtain ⟨n, hn⟩ : ∃ n, b1.toNat * 256 + b2.toNat = n := ⟨_, rfl⟩
  have hor : bits .or .i64 ((b1.toNat : Int) * 256) (b2.toNat : Int) = (n : Int) := by
    rw [show (b1.toNat : Int) * 256 = ((b1.toNat * 256 : Nat) : Int) by omega, i64_or_small _ _ (by omega) (by omega), or_256 _ _ (by omega), hn]
  have hw1 : IntKind.i64.wrap ((b1.toNat : Int) * 256) = (b1.toNat : Int) * 256 := by rw [IntKind.wrap_i64]; omega
  have hp : Hid (∀ p rest, frameAt bs p rest → p.length = n) := Lib.hid (fun p rest hf => by rw [← frame_12 hf e1.out e2.out, hn])
  go_enter Tryz.func65, Tryz.ntmps65
  go_wp2_with fail
  go_quiet (fail)
  by_cases hbig : (16384 : Int) < n
  · have hd1 : decide ((16384 : Int) < n) = true := by simpa using hbig
    have hno : Hid (∀ p rest, ¬ frameAt bs p rest) := Lib.hid (fun p rest hf => by have := hp.out p rest hf; have := hf.1; omega)
    go_wp2_with fail
    refine bodyPost_ret (v := .tuple #[.slice none 0 0, .int .i64 0]) ?_ rfl (.inr ⟨hno.out, rfl, below_drewN (Below.refl _ _) _⟩)
    simp [results, Tryz.results65, go_sem]
  have hd1 : decide ((16384 : Int) < n) = false := by simpa using hbig
  by_cases hfit : (bs.length : Int) - 3 - 4 < n
  · have hd2 : decide ((bs.length : Int) - 3 - 4 < n) = true := by simpa using hfit
    have hno : Hid (∀ p rest, ¬ frameAt bs p rest) := Lib.hid (fun p rest hf => by have := hp.out p rest hf; have := frame_len hf; omega)
    go_wp2_with fail
    refine bodyPost_ret (v := .tuple #[.slice none 0 0, .int .i64 0]) ?_ rfl (.inr ⟨hno.out, rfl, below_drewN (Below.refl _ _) _⟩)
    simp [results, Tryz.results65, go_sem]
  have hd2 : decide ((bs.length : Int) - 3 - 4 < n) = false := by simpa using hfit
  go_wp2_with fail
  obtain ⟨fr, hfr⟩ : ∃ l, bs.take (n + 3) = l := ⟨_, rfl⟩
  have hFR := Lib.hid hfr
  have hRS : RP ((w.drewN nq).alloc (.cells #[.slice (some ad) (3 + n) c] 51)) (.slice (some ⟨w.heap.size, 0, none⟩) 1 1) [fr] := RP.made1 (w := w.drewN nq) ((hR.out.below (below_drewN (Below.refl _ _) nq)).sub 0 (n + 3) (by omega) (by omega) (by omega) rfl (by rw [List.drop_zero, hfr]))
  refine (sum_any _ [fr] _ hRS).mono ?_
  rintro e w1 ⟨rfl, rfl⟩
  rw [show [fr].flatten = fr by simp]
  obtain ⟨s, hs⟩ : ∃ s, crcSum fr = s := ⟨_, rfl⟩
  have hsl := crcSum_lt fr
  rw [hs] at hsl ⊢
  have hS := Lib.hid hs
  have hBA : Below w.heap.size w ((w.drewN nq).alloc (.cells #[.slice (some ad) (3 + n) c] 51)) := (below_drewN (Below.refl _ w) nq).alloc (Nat.le_refl _) _
  have hsz : ((w.drewN nq).alloc (.cells #[.slice (some ad) (3 + n) c] 51)).heap.size = w.heap.size + 1 := World.size_alloc _ _
  clear hRS hs hfr
  generalize (w.drewN nq).alloc (.cells #[.slice (some ad) (3 + n) c] 51) = W at *
  have hBW := Lib.hid hBA
  clear hBA
  go_wp2_with fail
  have hBW2 := Lib.hid (below_alloc hBW.out (.cells #[.int .u8 ((s : Int) / 16777216), .int .u8 ((s : Int) / 65536 % 256), .int .u8 ((s : Int) / 256 % 256), .int .u8 ((s : Int) % 256)] 5))
  refine (bytesEq_any _ _ ((bs.drop (n + 3)).take 4) (tailB s) _ ((hR.out.below hBW2.out).sub (n + 3) 4 (by omega) rfl (by omega) (by rw [Nat.add_comm]) rfl) (RB.made (by omega) (by
    simp only [tailB, u8s, List.map_cons, List.map_nil]
    rw [u8cell ((s : Int) / 16777216) (s / 16777216) (by omega), u8cell ((s : Int) / 65536 % 256) (s / 65536) (by omega), u8cell ((s : Int) / 256 % 256) (s / 256) (by omega), u8cell ((s : Int) % 256) s (by omega)]) rfl (by simp [tailB, maxLen]))).mono ?_
  rintro e w2 ⟨rfl, rfl⟩
  generalize W.alloc (.cells #[.int .u8 ((s : Int) / 16777216), .int .u8 ((s : Int) / 65536 % 256), .int .u8 ((s : Int) / 256 % 256), .int .u8 ((s : Int) % 256)] 5) = W2 at *
  by_cases heq : (bs.drop (n + 3)).take 4 = tailB s
  · have hy := Lib.hid (peel_yes (n := n) e00.out e1.out e2.out hn (by omega) (by omega) (by rw [hFR.out, hS.out]; exact heq))
    rw [show decide ((bs.drop (n + 3)).take 4 = tailB s) = true by simpa using heq]
    clear heq
    go_wp2_with fail
    obtain ⟨p, hpe⟩ : ∃ p, (bs.drop 3).take n = p := ⟨_, rfl⟩
    have hRp := (hR.out.below hBW2.out).sub 3 n (by omega) rfl rfl rfl hpe
    rw [hpe] at hy
    have hpl := Lib.hid hy.out.2
    have hfin : (3 : Int) + n + 4 = (p.length : Int) + 7 := by rw [hpl.out]; omega
    have hFin := Lib.hid hfin
    clear hpe hfin
    refine (clone_any _ p _ hRp (by rw [hpl.out]; omega)).mono ?_
    rintro e w5 ⟨A5, c5, rfl, hO5_, hB5_⟩
    have hO5 := Lib.hid hO5_
    have hB5 := Lib.hid (bnext hBW2.out hB5_)
    have hO5b := Lib.hid (hO5_.lower hBW2.out.size)
    clear hO5_ hB5_ hRp
    go_wp2_with fail
    refine bodyPost_ret (v := .tuple #[.slice A5 p.length c5, .int .i64 ((p.length : Int) + 7)]) ?_ rfl (.inl ⟨p, _, A5, c5, hy.out.1, rfl, hO5b.out, hB5.out⟩)
    rw [← hFin.out]
    simp [results, Tryz.results65, go_sem]
  · have hno := Lib.hid (peel_no (n := n) hp.out (by rw [hFR.out, hS.out]; exact heq))
    rw [show decide ((bs.drop (n + 3)).take 4 = tailB s) = false by simpa using heq]
    clear heq
    go_wp2_with fail
    refine bodyPost_ret (v := .tuple #[.slice none 0 0, .int .i64 0]) ?_ rfl (.inr ⟨hno.out, rfl, hBW2.out⟩)
    simp [results, Tryz.results65, go_sem]
end Go.Proofs.YteeiacfddjhhkaaGreatDoor
