/- The document's Peel: the body of the first frame. -/
import Derived.Test.YteeiacfddjhhkaaGreatDoorREnc
import Derived.Test.YteeiacfddjhhkaaGreatDoorOne
namespace Go.Proofs.YteeiacfddjhhkaaGreatDoor
open Go.RowKit
set_option maxRecDepth 100000

def RPeelRet (w : World) (bs : List UInt8) (e : Ending) (w' : World) : Prop :=
  (∃ p rest A c, frameAt bs p rest ∧ e = .returned (.tuple #[.slice A p.length c, .int .i64 ((p.length : Int) + 7)]) ∧ RB w' (.slice A p.length c) p ∧ Below w.heap.size w w') ∨
  ((∀ p rest, ¬ frameAt bs p rest) ∧ e = .returned (.tuple #[.slice none 0 0, .int .i64 0]) ∧ Below w.heap.size w w')
theorem rpeel_yes {bs : List UInt8} {n : Nat} (hn : n ≤ 16384) (hl : n + 7 ≤ bs.length) (h : wrapB ((bs.drop 3).take n) = bs.take (n + 7)) : frameAt bs ((bs.drop 3).take n) (bs.drop (n + 7)) ∧ ((bs.drop 3).take n).length = n := by
  have hlen : ((bs.drop 3).take n).length = n := by rw [List.length_take, List.length_drop]; omega
  exact ⟨⟨by omega, by rw [h, List.take_append_drop]⟩, hlen⟩
theorem rpeel_no {bs : List UInt8} {n : Nat} (hp : ∀ p rest, frameAt bs p rest → p.length = n) (h : wrapB ((bs.drop 3).take n) ≠ bs.take (n + 7)) : ∀ p rest, ¬ frameAt bs p rest := by
  intro p rest hf
  have hn := hp p rest hf
  apply h
  have h1 : bs.take (n + 7) = wrapB p := by rw [hf.2, List.take_left' (by rw [wrapB_length, hn])]
  have h2 : (bs.drop 3).take n = p := by
    rw [hf.2]
    unfold wrapB headB
    simp [hn]
  rw [h1, h2]
set_option maxHeartbeats 1000000 in
theorem rpeel_any (v : Value) (bs : List UInt8) (w : World) (h : RB w v bs) (hl : bs.length ≤ 100000) :
    Calls Tryz.prog 111 #[v] w (RPeelRet w bs) := by
  obtain ⟨A, c, hv, hnil, hc, hmx, hrow⟩ := id h
  have hR := Lib.hid h
  clear h
  subst hv
  by_cases h7 : (bs.length : Int) < 7
  · have hd : decide ((bs.length : Int) < 7) = true := by simpa using h7
    have hno : Hid (∀ p rest, ¬ frameAt bs p rest) := Lib.hid (fun p rest hf => by have := frame_len hf; omega)
    go_enter Tryz.func111, Tryz.ntmps111
    go_wp2_with fail
    refine bodyPost_ret (v := .tuple #[.slice none 0 0, .int .i64 0]) ?_ rfl (.inr ⟨hno.out, rfl, Below.refl _ _⟩)
    simp [results, Tryz.results111, go_sem]
  have hd : decide ((bs.length : Int) < 7) = false := by simpa using h7
  obtain ⟨ad, rfl, hc1⟩ := hR.out.at_ (i := 1) (by omega)
  obtain ⟨ad', h', hc2⟩ := hR.out.at_ (i := 2) (by omega)
  cases h'
  obtain ⟨b1, hb1⟩ : ∃ b, bs[1]'(by omega) = b := ⟨_, rfl⟩
  obtain ⟨b2, hb2⟩ : ∃ b, bs[2]'(by omega) = b := ⟨_, rfl⟩
  have e1 : Hid (bs[1]? = some b1) := Lib.hid (by rw [List.getElem?_eq_getElem (by omega), hb1])
  have e2 : Hid (bs[2]? = some b2) := Lib.hid (by rw [List.getElem?_eq_getElem (by omega), hb2])
  rw [hb1] at hc1
  rw [hb2] at hc2
  clear hb1 hb2 hnil hrow
  have i1 : (1 : Int) < bs.length := by omega
  have i2 : (2 : Int) < bs.length := by omega
  have hc1' : w.cell? ⟨ad.block, ad.off + 1, none⟩ = some (.int .u8 (b1.toNat : Int)) := hc1
  have hc2' : w.cell? ⟨ad.block, ad.off + 2, none⟩ = some (.int .u8 (b2.toNat : Int)) := hc2
  have l1 := b1.toNat_lt
  have l2 := b2.toNat_lt
  obtain ⟨n, hn⟩ : ∃ n, b1.toNat * 256 + b2.toNat = n := ⟨_, rfl⟩
  have hsum : 256 * (b1.toNat : Int) + (b2.toNat : Int) = (n : Int) := by omega
  have hp : Hid (∀ p rest, frameAt bs p rest → p.length = n) := Lib.hid (fun p rest hf => by rw [← frame_12 hf e1.out e2.out, hn])
  go_enter Tryz.func111, Tryz.ntmps111
  go_wp2_with fail
  go_quiet (fail)
  have hn2 : n < 65792 := by omega
  by_cases hbig : (16384 : Int) < n
  · have hd1 : decide ((16384 : Int) < n) = true := by simpa using hbig
    have hno : Hid (∀ p rest, ¬ frameAt bs p rest) := Lib.hid (fun p rest hf => by have := hp.out p rest hf; have := hf.1; omega)
    go_wp2_with fail
    refine bodyPost_ret (v := .tuple #[.slice none 0 0, .int .i64 0]) ?_ rfl (.inr ⟨hno.out, rfl, below_drewN (Below.refl _ _) _⟩)
    simp [results, Tryz.results111, go_sem]
  have hd1 : decide ((16384 : Int) < n) = false := by simpa using hbig
  by_cases hfit : (bs.length : Int) < n + 7
  · have hd2 : decide ((bs.length : Int) < (n : Int) + 7) = true := by simpa using hfit
    have hno : Hid (∀ p rest, ¬ frameAt bs p rest) := Lib.hid (fun p rest hf => by have := hp.out p rest hf; have := frame_len hf; omega)
    go_wp2_with fail
    refine bodyPost_ret (v := .tuple #[.slice none 0 0, .int .i64 0]) ?_ rfl (.inr ⟨hno.out, rfl, below_drewN (Below.refl _ _) _⟩)
    simp [results, Tryz.results111, go_sem]
  have hd2 : decide ((bs.length : Int) < (n : Int) + 7) = false := by simpa using hfit
  have hc3 : ¬ c = 3 := by omega
  have q1 : (3 : Int) + n ≤ bs.length := by omega
  have q2 : (n : Int) + 7 ≤ bs.length := by omega
  have q3 : (3 : Int) + n ≤ c := by omega
  have q4 : (n : Int) + 7 ≤ c := by omega
  have q5 : (0 : Int) ≤ n := by omega
  have q6 : (3 : Int) ≤ 3 + n := by omega
  have q7 : (0 : Int) ≤ (n : Int) + 7 := by omega
  have q8 : (0 : Int) ≤ 3 + (n : Int) := by omega
  have q9 : IntKind.i64.wrap (3 + (n : Int)) = 3 + n := by rw [IntKind.wrap_i64]; omega
  have q10 : IntKind.i64.wrap ((n : Int) + 7) = n + 7 := by rw [IntKind.wrap_i64]; omega
  have q11 : (3 + (n : Int)).toNat = 3 + n := by omega
  have q12 : ((n : Int) + 7).toNat = n + 7 := by omega
  obtain ⟨p, hpd⟩ : ∃ p, (bs.drop 3).take n = p := ⟨_, rfl⟩
  have hpl : p.length = n := by rw [← hpd, List.length_take, List.length_drop]; omega
  have hRp : ∀ W, RB W (.slice (some ad) bs.length c) bs → RB W (.slice (some ⟨ad.block, ad.off + 3, none⟩) p.length (c - 3)) p := fun W hW => hW.sub 3 n (by omega) hpl rfl rfl hpd
  have hRq : ∀ W, RB W (.slice (some ad) bs.length c) bs → RB W (.slice (some ad) (n + 7) c) (bs.take (n + 7)) := fun W hW => hW.sub 0 (n + 7) (by omega) rfl rfl rfl rfl
  have hRP := Lib.hid hRp
  have hRQ := Lib.hid hRq
  have hPD := Lib.hid hpd
  have hPL := Lib.hid hpl
  have hpm : Hid (p.length ≤ 16384) := Lib.hid (by omega)
  clear hRp hRq hpd hpl hc1 hc2 hc1' hc2'
  have hR1 := Lib.hid (show RB (w.drewN nq) (.slice (some ad) bs.length c) bs from hR.out.below (below_drewN (Below.refl _ _) _))
  have hBq := Lib.hid (below_drewN (Below.refl w.heap.size w) nq)
  generalize w.drewN nq = wq at *
  have hR1d : Hid (RB wq.drew (.slice (some ad) bs.length c) bs) := Lib.hid (hR1.out.below (Below.refl _ _).drew)
  have hcvA : ∀ W, RB W (.slice (some ad) bs.length c) bs → (convert 51 9 (.slice (some ad) (n + 7) c)).run Tryz.prog W = .ok (.string ⟨(bs.take (n + 7)).toArray⟩) W := fun W hW => run_conv_BS (hRQ.out _ hW)
  rw [hPL.out] at hRP
  go_wp2_with fail
  refine wp_region_noPanic ?_
  refine wp_region_held_drew (S := fun W => RB W (.slice (some ad) bs.length c) bs) (by kernel_rfl) (hR1d.out) (fun hS0 => ?_)
  refine wpAnyH_take (i := 0) (v := ?_) rfl (by kernel_rfl) (by kernel_rfl) (by kernel_rfl) (fun _ _ _ h => h) (Or.inl ⟨by rfl, ?_⟩) (by assumption) ?_
  rotate_left
  · intro w' hSw
    go_simp
    try with_reducible rfl
  try simp only [List.getElem_toArray, List.getElem_cons_succ, List.getElem_cons_zero, Act.put, List.setIfInBounds_toArray, List.set_cons_zero, List.set_cons_succ]
  refine wpAnyH_take (i := 1) (v := ?_) rfl (by kernel_rfl) (by kernel_rfl) (by kernel_rfl) (fun _ _ _ h => h) (Or.inl ⟨by rfl, ?_⟩) (by assumption) ?_
  rotate_left
  · intro w' hSw
    go_simp
    try with_reducible rfl
  try simp only [List.getElem_toArray, List.getElem_cons_succ, List.getElem_cons_zero, Act.put, List.setIfInBounds_toArray, List.set_cons_zero, List.set_cons_succ]
  refine wpAnyH_take (i := 2) (v := ?_) rfl (by kernel_rfl) (by kernel_rfl) (by kernel_rfl) (fun _ _ _ h => h) (Or.inl ⟨by rfl, ?_⟩) (by assumption) ?_
  rotate_left
  · intro w' hSw
    go_simp
    try with_reducible rfl
  try simp only [List.getElem_toArray, List.getElem_cons_succ, List.getElem_cons_zero, Act.put, List.setIfInBounds_toArray, List.set_cons_zero, List.set_cons_succ]
  refine wpAnyH_take (i := 3) (v := ?_) rfl (by kernel_rfl) (by kernel_rfl) (by kernel_rfl) (fun _ _ _ h => h) (Or.inl ⟨by rfl, ?_⟩) (by assumption) ?_
  rotate_left
  · intro w' hSw
    go_simp
    try with_reducible rfl
  try simp only [List.getElem_toArray, List.getElem_cons_succ, List.getElem_cons_zero, Act.put, List.setIfInBounds_toArray, List.set_cons_zero, List.set_cons_succ]
  refine wpAnyH_take (i := 6) (v := ?_) rfl (by kernel_rfl) (by kernel_rfl) (by kernel_rfl) (fun _ _ _ h => h) (Or.inl ⟨by rfl, ?_⟩) (by assumption) ?_
  rotate_left
  · intro w' hSw
    go_simp
    try with_reducible rfl
  try simp only [List.getElem_toArray, List.getElem_cons_succ, List.getElem_cons_zero, Act.put, List.setIfInBounds_toArray, List.set_cons_zero, List.set_cons_succ]
  refine wpAnyH_take (i := 7) (v := ?_) rfl (by kernel_rfl) (by kernel_rfl) (by kernel_rfl) (fun _ _ _ h => h) (Or.inl ⟨by rfl, ?_⟩) (by assumption) ?_
  rotate_left
  · intro w' hSw
    go_simp
    try with_reducible rfl
  try simp only [List.getElem_toArray, List.getElem_cons_succ, List.getElem_cons_zero, Act.put, List.setIfInBounds_toArray, List.set_cons_zero, List.set_cons_succ]
  refine wpAnyH_take (i := 8) (v := ?_) rfl (by kernel_rfl) (by kernel_rfl) (by kernel_rfl) (fun _ _ _ h => h) (Or.inl ⟨by rfl, ?_⟩) (by assumption) ?_
  rotate_left
  · intro w' hSw
    go_simp
    try with_reducible rfl
  try simp only [List.getElem_toArray, List.getElem_cons_succ, List.getElem_cons_zero, Act.put, List.setIfInBounds_toArray, List.set_cons_zero, List.set_cons_succ]
  refine wpAnyH_take (i := 9) (v := ?_) rfl (by kernel_rfl) (by kernel_rfl) (by kernel_rfl) (fun _ _ _ h => h) (Or.inl ⟨by rfl, ?_⟩) (by assumption) ?_
  rotate_left
  · intro w' hSw
    go_simp
    try with_reducible rfl
  try simp only [List.getElem_toArray, List.getElem_cons_succ, List.getElem_cons_zero, Act.put, List.setIfInBounds_toArray, List.set_cons_zero, List.set_cons_succ]
  refine wpAnyH_take (i := 10) (v := ?_) rfl (by kernel_rfl) (by kernel_rfl) (by kernel_rfl) (fun _ _ _ h => h) (Or.inl ⟨by rfl, ?_⟩) (by assumption) ?_
  rotate_left
  · intro w' hSw
    go_simp
    try with_reducible rfl
  try simp only [List.getElem_toArray, List.getElem_cons_succ, List.getElem_cons_zero, Act.put, List.setIfInBounds_toArray, List.set_cons_zero, List.set_cons_succ]
  refine wpAnyH_ready (rs := [4]) (by kernel_rfl) (by simp) ?_
  refine AllReadyH.cons rfl (fun K hK => ?_) AllReadyH.nil
  go_simp
  refine (rwrap_one _ p _ (hRP.out _ hR1d.out) hpm.out).mono ?_
  rintro e w1 ⟨A1, d1, rfl, hO1_, hB1_⟩
  have hB1 := Lib.hid hB1_
  have hcv1 := run_conv_BS (RB.of_own hO1_)
  clear hO1_ hB1_
  refine hK.out _ _ (hR1d.out.below hB1.out) (fun hS1 => ?_)
  clear hK K
  try simp only [List.getElem_toArray, List.getElem_cons_succ, List.getElem_cons_zero, Act.put, List.setIfInBounds_toArray, List.set_cons_zero, List.set_cons_succ]
  refine wpAnyH_ready (rs := [5]) (by kernel_rfl) (by simp) ?_
  refine AllReadyH.cons rfl (fun K hK => ?_) AllReadyH.nil
  go_simp
  refine hK.out _ _ (hR1d.out.below hB1.out) (fun hS2 => ?_)
  clear hK K
  try simp only [List.getElem_toArray, List.getElem_cons_succ, List.getElem_cons_zero, Act.put, List.setIfInBounds_toArray, List.set_cons_zero, List.set_cons_succ]
  refine wpAnyH_take (i := 11) (v := ?_) rfl (by kernel_rfl) (by kernel_rfl) (by kernel_rfl) (fun _ _ _ h => h) (Or.inl ⟨by rfl, ?_⟩) (by assumption) ?_
  rotate_left
  · intro w' hSw
    go_simp
    try with_reducible rfl
  try simp only [List.getElem_toArray, List.getElem_cons_succ, List.getElem_cons_zero, Act.put, List.setIfInBounds_toArray, List.set_cons_zero, List.set_cons_succ]
  refine wpAnyH_done (by kernel_rfl) ?_ _
  refine NoPanic.normal ?_
  have hR2 := Lib.hid (hR1d.out.below hB1.out)
  have hB2 : Hid (Below w.heap.size w w1) := Lib.hid (bnext (bnext hBq.out (Below.refl _ wq).drew) hB1.out)
  clear hS0 hS1 hS2 hcv1 hcvA
  by_cases heq : wrapB p = bs.take (n + 7)
  · have hy := Lib.hid (rpeel_yes (bs := bs) (n := n) (by have := hpm.out; have := hPL.out; omega) (by omega) (by rw [hPD.out]; exact heq))
    rw [hPD.out] at hy
    rw [show (wrapB p == bs.take (n + 7)) = true by simpa using heq]
    clear heq
    go_wp2_with fail
    refine bodyPost_ret (v := .tuple #[.slice (some ⟨ad.block, ad.off + 3, none⟩) p.length (c - 3), .int .i64 ((p.length : Int) + 7)]) ?_ rfl (.inl ⟨p, _, _, _, hy.out.1, rfl, by rw [hPL.out]; exact hRP.out _ hR2.out, hB2.out⟩)
    rw [hPL.out]
    simp [results, Tryz.results111, go_sem]
  · have hno := Lib.hid (rpeel_no (n := n) hp.out (by rw [hPD.out]; exact heq))
    rw [show (wrapB p == bs.take (n + 7)) = false by simpa using heq]
    clear heq
    go_wp2_with fail
    refine bodyPost_ret (v := .tuple #[.slice none 0 0, .int .i64 0]) ?_ rfl (.inr ⟨hno.out, rfl, hB2.out⟩)
    simp [results, Tryz.results111, go_sem]
end Go.Proofs.YteeiacfddjhhkaaGreatDoor
