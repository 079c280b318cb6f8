/- net.Send. -/
import Derived.Test.YteeiacfddjhhkaaGreatDoorApp
import Derived.Test.YteeiacfddjhhkaaGreatDoorEnc
import Derived.Test.YteeiacfddjhhkaaGreatDoorDec
import Derived.Handy
namespace Go.Proofs.YteeiacfddjhhkaaGreatDoor
open Go.RowKit
set_option maxRecDepth 100000
variable {cz : Cuts}

theorem RowAt.keptF {S : Nat → Prop} {w w' : World} {A : Option Addr} {cs : List Value} (h : RowAt w A cs) (hk : Kept S w w') (hs : cs = [] ∨ ∀ ad, A = some ad → ¬ S ad.block) : RowAt w' A cs := by
  rcases hs with rfl | hs
  · exact RowAt.nil _ _
  · exact h.kept hk hs
theorem MsgR.keptS {S : Nat → Prop} {w w' : World} {m : PMsg} {A : Option Addr} {c : Nat} {B : Option Addr} {d : Nat} (h : MsgR w m A c B d) (hk : Kept S w w') (hA : i64s m.told = [] ∨ ∀ ad, A = some ad → ¬ S ad.block) (hB : opsC m.ops = [] ∨ ∀ ad, B = some ad → ¬ S ad.block) : MsgR w' m A c B d :=
  ⟨h.told.keptF hk hA, h.ops.keptF hk hB, h.toldle, h.opsle, h.keys, h.toldok, h.opsok, h.nums⟩
/-- A message as it lies: its data, its two slices. -/
structure MV where
  m : PMsg
  A : Option Addr
  c : Nat
  B : Option Addr
  d : Nat
def mvC (x : MV) : List Value := (msgA x.m x.A x.c x.B x.d).toList
def mvsC (l : List MV) : List Value := (l.map mvC).flatten
theorem mvC_len (x : MV) : (mvC x).length = 11 := rfl
theorem mvsC_get : ∀ (l : List MV) (k : Nat) (x : MV) (j : Nat), l[k]? = some x → j < 11 → (mvsC l)[k * 11 + j]? = (mvC x)[j]?
  | [], k, x, j, h, _ => by simp at h
  | y :: l, 0, x, j, h, hj => by
    simp at h
    subst h
    show (mvC y ++ mvsC l)[0 * 11 + j]? = _
    rw [Nat.zero_mul, Nat.zero_add, List.getElem?_append_left (by rw [mvC_len]; exact hj)]
  | y :: l, k + 1, x, j, h, hj => by
    simp at h
    show (mvC y ++ mvsC l)[(k + 1) * 11 + j]? = _
    rw [List.getElem?_append_right (by rw [mvC_len]; omega), mvC_len, ← mvsC_get l k x j h hj]
    congr 1
    omega
def siteM (m : PMsg) : Int := if m.from_ < m.to_ then m.to_ else m.from_
def send1 (cz : Cuts) (most : Int) (ks : List PK) (m : PMsg) : List PK := if mayM m = true ∧ cutAt cz (siteM m) = false ∧ (ks.length : Int) < most then ks ++ [⟨encM m, siteM m, 0⟩] else ks
def sendN (cz : Cuts) (most : Int) (ks : List PK) (l : List PMsg) : List PK := l.foldl (send1 cz most) ks
theorem send1_len (most : Int) (ks : List PK) (m : PMsg) : ks.length ≤ (send1 cz most ks m).length ∧ (send1 cz most ks m).length ≤ ks.length + 1 := by
  unfold send1
  split <;> simp
theorem sendN_snoc (most : Int) (ks : List PK) (l : List PMsg) (k : Nat) (x : PMsg) (h : l[k]? = some x) : sendN cz most ks (l.take (k + 1)) = send1 cz most (sendN cz most ks (l.take k)) x := by
  obtain ⟨hk, e⟩ := List.getElem?_eq_some_iff.1 h
  unfold sendN
  rw [List.take_succ_eq_append_getElem hk, List.foldl_append, e]
  rfl
theorem sendN_len (most : Int) (ks : List PK) (l : List PMsg) (k : Nat) (hk : k ≤ l.length) : ks.length ≤ (sendN cz most ks (l.take k)).length ∧ (sendN cz most ks (l.take k)).length ≤ ks.length + k := by
  induction k with
  | zero => simp [sendN]
  | succ k ih =>
    have h1 := ih (by omega)
    rw [sendN_snoc (cz := cz) most ks l k l[k] (List.getElem?_eq_getElem (by omega))]
    have h2 := send1_len (cz := cz) most (sendN cz most ks (l.take k)) l[k]
    omega
theorem encM_len {m : PMsg} : (encM m).length ≤ 2000 := by
  unfold encM
  split
  · rename_i h
    have := bodyM_len h
    rw [wrapB_length]
    omega
  · simp
theorem encM_nil (m : PMsg) : (mayM m = false ∧ (encM m).length = 0) ∨ (mayM m = true ∧ (encM m).length ≠ 0) := by
  unfold encM
  cases h : mayM m
  · exact .inl ⟨rfl, rfl⟩
  · refine .inr ⟨rfl, ?_⟩
    simp only [if_true]
    rw [wrapB_length]
    omega
theorem mvs_at {w : World} {A : Option Addr} {l : List MV} (h : RowAt w A (mvsC l)) {k : Nat} {x : MV} (hx : l[k]? = some x) :
    ∃ ad, A = some ad ∧ w.cell? (ad.add (k * 11)) = some (.int .i64 x.m.kind) ∧ w.cell? ⟨(ad.add (k * 11)).block, (ad.add (k * 11)).off + 1, none⟩ = some (.int .i64 x.m.from_) ∧ w.cell? ⟨(ad.add (k * 11)).block, (ad.add (k * 11)).off + 2, none⟩ = some (.int .i64 x.m.to_) ∧ w.cell? ⟨(ad.add (k * 11)).block, (ad.add (k * 11)).off + 3, none⟩ = some (.int .i64 x.m.g) ∧ w.cell? ⟨(ad.add (k * 11)).block, (ad.add (k * 11)).off + 4, none⟩ = some (.int .i64 x.m.node) ∧ w.cell? ⟨(ad.add (k * 11)).block, (ad.add (k * 11)).off + 5, none⟩ = some (.int .i64 x.m.try_) ∧ w.cell? ⟨(ad.add (k * 11)).block, (ad.add (k * 11)).off + 6, none⟩ = some (.int .i64 x.m.low) ∧ w.cell? ⟨(ad.add (k * 11)).block, (ad.add (k * 11)).off + 7, none⟩ = some (.int .i64 x.m.code) ∧ w.cell? ⟨(ad.add (k * 11)).block, (ad.add (k * 11)).off + 8, none⟩ = some (.int .i64 x.m.ticket) ∧ w.cell? ⟨(ad.add (k * 11)).block, (ad.add (k * 11)).off + 9, none⟩ = some (.slice x.A x.m.told.length x.c) ∧ w.cell? ⟨(ad.add (k * 11)).block, (ad.add (k * 11)).off + 10, none⟩ = some (.slice x.B x.m.ops.length x.d) := by
  obtain ⟨ad, hA, h0⟩ := h (k * 11) (.int .i64 x.m.kind) (mvsC_get l k x 0 hx (by omega))
  subst hA
  have g : ∀ j u, 0 < j → j < 11 → (mvC x)[j]? = some u → w.cell? ⟨(ad.add (k * 11)).block, (ad.add (k * 11)).off + j, none⟩ = some u := by
    intro j u h0 hj hu
    obtain ⟨ad', hA, hc⟩ := h (k * 11 + j) u (by rw [mvsC_get l k x j hx hj]; exact hu)
    cases hA
    rw [← add_off _ _ _ h0]
    exact hc
  exact ⟨ad, rfl, h0, g 1 _ (by omega) (by omega) rfl, g 2 _ (by omega) (by omega) rfl, g 3 _ (by omega) (by omega) rfl, g 4 _ (by omega) (by omega) rfl, g 5 _ (by omega) (by omega) rfl, g 6 _ (by omega) (by omega) rfl, g 7 _ (by omega) (by omega) rfl, g 8 _ (by omega) (by omega) rfl, g 9 _ (by omega) (by omega) rfl, g 10 _ (by omega) (by omega) rfl⟩
set_option maxHeartbeats 2000000 in
theorem Send_any (p : Nat) (most : Int) (ks : List PK) (l : List MV) (L : Option Addr) (cl : Nat) (w : World) (hG : GOk w) (h : NetAt cz w p most ks) (hr : RowAt w L (mvsC l)) (hL : ∀ ad, L = some ad → ¬ NS w p ad.block)
    (hm : ∀ x ∈ l, MsgR w x.m x.A x.c x.B x.d ∧ (i64s x.m.told = [] ∨ ∀ ad, x.A = some ad → ¬ NS w p ad.block) ∧ (opsC x.m.ops = [] ∨ ∀ ad, x.B = some ad → ¬ NS w p ad.block)) (hlen : ks.length + l.length ≤ 100000) :
    Calls Tryz.prog 9 #[.pointer (some ⟨p, 0, none⟩), .slice L l.length cl] w fun e w' => e = .returned (.int .i64 ((sendN cz most ks (l.map (·.m))).length - ks.length)) ∧ NetAt cz w' p most (sendN cz most ks (l.map (·.m))) ∧ Kept (NS w p) w w' := by
  have hH := Lib.hid (And.intro hG (And.intro h (And.intro hr (And.intro hL hm))))
  clear hG h hr hL hm
  go_enter Tryz.func9, Tryz.ntmps9
  go_wp2_with fail
  go_loopw [5, 14] (fun s i wr => ∃ k : Nat, k ≤ l.length ∧ i = .int .i64 k ∧ s = .int .i64 ((sendN cz most ks ((l.map (·.m)).take k)).length - ks.length) ∧ NetAt cz wr p most (sendN cz most ks ((l.map (·.m)).take k)) ∧ Kept (NS w p) w wr) (fun _ i _ => l.length - (intOf i).toNat)
  case atStart => exact ⟨0, by omega, rfl, by simp [sendN], by simpa [sendN] using hH.out.2.1, Kept.refl _ _⟩
  case round =>
    obtain ⟨k, hk, rfl, rfl, hN_, hK_⟩ := hrel
    obtain ⟨kl, hkl⟩ : ∃ kl, kl = sendN cz most ks ((l.map (·.m)).take k) := ⟨_, rfl⟩
    rw [← hkl] at hN_
    have hkn := sendN_len (cz := cz) most ks (l.map (·.m)) k (by simpa using hk)
    rw [← hkl] at hkn
    rw [← hkl]
    have hKL := Lib.hid hkl
    have hN := Lib.hid hN_
    have hK := Lib.hid hK_
    clear hN_ hK_ hkl
    by_cases hlt : k < l.length
    · obtain ⟨x, hx⟩ : ∃ x, l[k]? = some x := ⟨_, List.getElem?_eq_getElem hlt⟩
      obtain ⟨hG0, hN0, hr0, hL0, hm0⟩ := hH.out
      have hxm := hm0 x (List.mem_of_getElem? hx)
      obtain ⟨ad, rfl, c0, c1, c2, c3, c4, c5, c6, c7, c8, c9, c10⟩ := mvs_at (hr0.kept hK.out hL0) hx
      have hMr := Lib.hid (hxm.1.keptS hK.out hxm.2.1 hxm.2.2)
      have hGr := Lib.hid (hG0.kept hK.out (fun h => by have := h.1; obtain ⟨_, _, mb', _, _, _, _, h3', _⟩ := hN0; omega))
      have hSn := Lib.hid (sendN_snoc (cz := cz) most ks (l.map (·.m)) k x.m (by simp [hx]))
      rw [← hKL.out] at hSn
      obtain ⟨m, A, c, B, d⟩ := x
      obtain ⟨kind, from_, to_, g, node, try_, low, code, ticket, told, ops⟩ := m
      simp only at c0 c1 c2 c3 c4 c5 c6 c7 c8 c9 c10 hMr hSn
      clear hG0 hN0 hr0 hL0 hm0 hxm hx
      have hBM := Lib.hid (below_alloc (Below.refl _ wr) (.cells #[.int .i64 kind, .int .i64 from_, .int .i64 to_, .int .i64 g, .int .i64 node, .int .i64 try_, .int .i64 low, .int .i64 code, .int .i64 ticket, .slice A told.length c, .slice B ops.length d] 37))
      have hq := heap_alloc_new wr (.cells #[.int .i64 kind, .int .i64 from_, .int .i64 to_, .int .i64 g, .int .i64 node, .int .i64 try_, .int .i64 low, .int .i64 code, .int .i64 ticket, .slice A told.length c, .slice B ops.length d] 37)
      have hSb : Hid (∀ W : World, Below (wr.alloc (.cells #[.int .i64 kind, .int .i64 from_, .int .i64 to_, .int .i64 g, .int .i64 node, .int .i64 try_, .int .i64 low, .int .i64 code, .int .i64 ticket, .slice A told.length c, .slice B ops.length d] 37)).heap.size (wr.alloc (.cells #[.int .i64 kind, .int .i64 from_, .int .i64 to_, .int .i64 g, .int .i64 node, .int .i64 try_, .int .i64 low, .int .i64 code, .int .i64 ticket, .slice A told.length c, .slice B ops.length d] 37)) W → W.cell? ⟨wr.heap.size, 0, none⟩ = some (.int .i64 kind) ∧ W.cell? ⟨wr.heap.size, 1, none⟩ = some (.int .i64 from_) ∧ W.cell? ⟨wr.heap.size, 2, none⟩ = some (.int .i64 to_) ∧ W.cell? ⟨wr.heap.size, 3, none⟩ = some (.int .i64 g) ∧ W.cell? ⟨wr.heap.size, 4, none⟩ = some (.int .i64 node) ∧ W.cell? ⟨wr.heap.size, 5, none⟩ = some (.int .i64 try_) ∧ W.cell? ⟨wr.heap.size, 6, none⟩ = some (.int .i64 low) ∧ W.cell? ⟨wr.heap.size, 7, none⟩ = some (.int .i64 code) ∧ W.cell? ⟨wr.heap.size, 8, none⟩ = some (.int .i64 ticket) ∧ W.cell? ⟨wr.heap.size, 9, none⟩ = some (.slice A told.length c) ∧ W.cell? ⟨wr.heap.size, 10, none⟩ = some (.slice B ops.length d)) := Lib.hid (fun W hb => by
        have e := block_below hb hq
        exact ⟨by rw [block_cell e]; rfl, by rw [block_cell e]; rfl, by rw [block_cell e]; rfl, by rw [block_cell e]; rfl, by rw [block_cell e]; rfl, by rw [block_cell e]; rfl, by rw [block_cell e]; rfl, by rw [block_cell e]; rfl, by rw [block_cell e]; rfl, by rw [block_cell e]; rfl, by rw [block_cell e]; rfl⟩)
      clear hq
      go_wp2_with fail
      generalize wr.alloc (.cells #[.int .i64 kind, .int .i64 from_, .int .i64 to_, .int .i64 g, .int .i64 node, .int .i64 try_, .int .i64 low, .int .i64 code, .int .i64 ticket, .slice A told.length c, .slice B ops.length d] 37) = W0 at *
      obtain ⟨bs, hbs⟩ : ∃ bs, encM ⟨kind, from_, to_, g, node, try_, low, code, ticket, told, ops⟩ = bs := ⟨_, rfl⟩
      have hBS := Lib.hid hbs
      have hEnc := enc_any ⟨kind, from_, to_, g, node, try_, low, code, ticket, told, ops⟩ A c B d W0.drew ((hMr.out.below hBM.out).below (Below.refl _ _).drew) ((hGr.out.below hBM.out).below (Below.refl _ _).drew) hMr.out.opsle hMr.out.toldle hMr.out.keys
      rw [hbs] at hEnc
      simp only [msgA] at hEnc
      have hENC := Lib.hid hEnc
      clear hEnc hbs
      obtain ⟨s0, s1, s2, s3, s4, s5, s6, s7, s8, s9, s10⟩ := hSb.out W0 (Below.refl _ _)
      clear c0 c1 c2 c3 c4 c5 c6 c7 c8 c9 c10
      obtain ⟨st, hst⟩ : ∃ st, (if from_ < to_ then to_ else from_) = st := ⟨_, rfl⟩
      have hST := Lib.hid hst
      go_region_held3 (fun W => W.cell? ⟨wr.heap.size, 0, none⟩ = some (.int .i64 kind) ∧ W.cell? ⟨wr.heap.size, 1, none⟩ = some (.int .i64 from_) ∧ W.cell? ⟨wr.heap.size, 2, none⟩ = some (.int .i64 to_) ∧ W.cell? ⟨wr.heap.size, 3, none⟩ = some (.int .i64 g) ∧ W.cell? ⟨wr.heap.size, 4, none⟩ = some (.int .i64 node) ∧ W.cell? ⟨wr.heap.size, 5, none⟩ = some (.int .i64 try_) ∧ W.cell? ⟨wr.heap.size, 6, none⟩ = some (.int .i64 low) ∧ W.cell? ⟨wr.heap.size, 7, none⟩ = some (.int .i64 code) ∧ W.cell? ⟨wr.heap.size, 8, none⟩ = some (.int .i64 ticket) ∧ W.cell? ⟨wr.heap.size, 9, none⟩ = some (.slice A told.length c) ∧ W.cell? ⟨wr.heap.size, 10, none⟩ = some (.slice B ops.length d))
        (first | exact hSb.out _ hB1.out | exact hSb.out _ (Below.refl _ _).drew | go_keep)
        ((first
          | (go_at_call 33; refine hENC.out.mono ?_; rintro e w1 ⟨A1, d1, rfl, hO1_, hB1_⟩; have hO1 := Lib.hid hO1_; have hB1 := Lib.hid (bnext (Below.refl _ W0).drew hB1_); clear hO1_ hB1_)))
      clear s0 s1 s2 s3 s4 s5 s6 s7 s8 s9 s10
      all_goals
        clear hst
        have hBw := Lib.hid (bnext hBM.out hB1.out)
        have hN1 := Lib.hid (hN.out.later hBw.out)
        have hbsl : bs.length ≤ 2000 := by rw [← hBS.out]; exact encM_len
        obtain ⟨A', c', mb, mk, vs, h1, h2, h3, h4, h5, h6⟩ := hN1.out
        have x0 : w1.cell? ⟨p, 0, none⟩ = some (.int .i64 most) := by rw [block_cell h1]; rfl
        have x1 : w1.cell? ⟨p, 1, none⟩ = some (.slice A' kl.length c') := by rw [block_cell h1]; rfl
        have hP := Lib.hid (And.intro h1 (And.intro h2 (And.intro h3 (And.intro h4 (And.intro h5 h6)))))
        clear h1 h2 h3 h4 h5 h6
        obtain ⟨bl, hbl9⟩ : ∃ bl, bl = bs.length := ⟨_, rfl⟩
        rw [← hbl9] at hbsl ⊢
        have hBL := Lib.hid hbl9
        clear hbl9
        rcases encM_nil ⟨kind, from_, to_, g, node, try_, low, code, ticket, told, ops⟩ with ⟨hmay, hbl⟩ | ⟨hmay, hbl⟩
        · rw [hBS.out, ← hBL.out] at hbl
          have hsn : send1 cz most kl ⟨kind, from_, to_, g, node, try_, low, code, ticket, told, ops⟩ = kl := by unfold send1; rw [hmay]; simp
          subst hbl
          have hsn2 := Lib.hid hsn
          clear hsn hmay
          go_wp2_with fail
          go_quiet (fail)
          go_wp2_with fail
          go_roundw
          case rel => exact ⟨k + 1, by omega, by go_num, by rw [hSn.out, hsn2.out], by rw [hSn.out, hsn2.out]; exact hN1.out.later (below_drewN (Below.refl _ _) nq), hK.out.trans (Kept.of_below (NS w p) (bnext hBw.out (below_drewN (Below.refl _ _) nq))) (fun _ _ h => h)⟩
          case measure => simp [intOf]; omega
        · rw [hBS.out, ← hBL.out] at hbl
          have hb0 : ((bl : Int) == 0) = false := by simp; omega
          have hst64 : i64ok st := by
            have f := mayM_facts hmay
            have f1 := f.from_
            have f2 := f.to_
            simp only at f1 f2
            rw [← hST.out]
            unfold i64ok
            split <;> omega
          have hSTM : Hid (siteM ⟨kind, from_, to_, g, node, try_, low, code, ticket, told, ops⟩ = st) := Lib.hid hST.out
          have hPART := Lib.hid (parted_any p most kl st w1.drew (hN1.out.later (Below.refl _ _).drew) hst64)
          by_cases hcut : cutAt cz st = true
          · have hsn : send1 cz most kl ⟨kind, from_, to_, g, node, try_, low, code, ticket, told, ops⟩ = kl := by unfold send1; rw [if_neg (fun h => by rw [hSTM.out, hcut] at h; simp at h)]
            have hPQ := fun n => parted_any p most kl st (w1.drewN n) (hN1.out.later (below_drewN (Below.refl _ _) n)) hst64
            rw [hcut] at hPQ
            have hPQ9 := Lib.hid hPQ
            have hsn2 := Lib.hid hsn
            clear hsn hmay hbl hcut hPQ hPART hst64
            go_wp2_with fail
            go_quiet (exact Calls.quiet_of_same (hPQ9.out _))
            go_wp2_with fail
            go_roundw
            case rel => exact ⟨k + 1, by omega, by go_num, by rw [hSn.out, hsn2.out], by rw [hSn.out, hsn2.out]; exact hN1.out.later (below_drewN (Below.refl _ _) nq), hK.out.trans (Kept.of_below (NS w p) (bnext hBw.out (below_drewN (Below.refl _ _) nq))) (fun _ _ h => h)⟩
            case measure => simp [intOf]; omega
          have hcut0 : cutAt cz st = false := by simpa using hcut
          rw [hcut0] at hPART
          clear hcut hst64
          by_cases hfull : (kl.length : Int) < most
          · have dm1 : decide (most ≤ (kl.length : Int)) = false := by simp; omega
            have hsn : send1 cz most kl ⟨kind, from_, to_, g, node, try_, low, code, ticket, told, ops⟩ = kl ++ [⟨bs, st, 0⟩] := by unfold send1; rw [if_pos ⟨hmay, by rw [hSTM.out, hcut0], hfull⟩, hBS.out]; simp [siteM, ← hST.out]
            have hsn2 := Lib.hid hsn
            clear hsn hmay hbl hfull hcut0
            go_wp2_with fail
            go_region_held3 (fun W => W.cell? ⟨p, 0, none⟩ = some (.int .i64 most) ∧ W.cell? ⟨p, 1, none⟩ = some (.slice A' kl.length c')) (first | (go_split_ands; with_reducible exact ⟨x0, x1⟩) | go_keep)
            ((first | (go_at_call 34; refine hPART.out.mono ?_; rintro e w3 ⟨rfl, rfl⟩)))
            have hB2 := Lib.hid (Below.refl w1.heap.size w1).drew
            have x0d : w1.drew.cell? ⟨p, 0, none⟩ = some (.int .i64 most) := x0
            have x1d : w1.drew.cell? ⟨p, 1, none⟩ = some (.slice A' kl.length c') := x1
            clear x0 x1 hPART
            generalize w1.drew = w2 at *
            have hB5 := Lib.hid (below_alloc hB2.out (.cells #[.slice A1 bl d1, .int .i64 st, .int .i64 0] 77))
            have hpw : p + 1 ≤ w1.heap.size := lt_of_block hP.out.1
            have hsz := Lib.hid (Nat.le_trans hpw hB5.out.size)
            have hpw0 : p + 1 ≤ wr.heap.size := by obtain ⟨_, _, _, _, _, h1, _⟩ := hN.out; exact lt_of_block h1
            have hO5 : Hid (OB (w2.alloc (.cells #[.slice A1 bl d1, .int .i64 st, .int .i64 0] 77)) (p + 1) (.slice A1 bl d1) bs) := Lib.hid (OB.below (by rw [hBL.out]; exact OB.lower hO1.out (Nat.le_trans hpw0 hBM.out.size)) hB5.out)
            have hb40 : Hid ((kl.length + 1) * 40 ≤ 140737488355328) := Lib.hid (by omega)
            have hown5 := Lib.hid (own_below hP.out.2.2.2.1 hB5.out)
            have hS : Hid (∀ w9 : World, (w2.alloc (.cells #[.slice A1 bl d1, .int .i64 st, .int .i64 0] 77)).grownBy w9 (Value.slice A' kl.length c').ownBlock → w9.cell? ⟨p, 1, none⟩ = some (.slice A' kl.length c') ∧ w9.frozen? ⟨p, 1, none⟩ = false) := Lib.hid (fun w9 hg => by
              have h1 := block_below hB5.out hP.out.1
              have h2 := (hg.block p (lt_of_block h1) (fun e => by have := own_ge hP.out.2.2.2.1 p e.symm; omega)).trans h1
              exact ⟨by rw [block_cell h2]; rfl, block_free h2 1⟩)
            go_wp2_with (at_builtin; refine list_of_wp rfl ?_; refine wp_append_row (.tmp 49) (.tmp 53) 69 rfl (p + 1) 77 (.agg #[.slice none 0 0, .int .i64 0, .int .i64 0]) 3 40 Tryz.underlying69 Tryz.infoPk rfl (by decide) (by decide) (.slice A' kl.length c') kl.length (pksC vs kl) rfl hown5.out (some ⟨w2.heap.size, 0, none⟩) 1 1 [.slice A1 bl d1, .int .i64 st, .int .i64 0] rfl (by simp) (by decide) rfl (RowAt.made rfl) (by simp [Value.oneCell']) hb40.out hsz.out ?_)
            intro v9 w9 hO9_ hG9_ hv9_
            obtain ⟨A9, d9, rfl⟩ := own_slice hO9_
            have hO9 := Lib.hid hO9_
            have hG9 := Lib.hid hG9_
            obtain ⟨t1, t2⟩ := hS.out w9 hG9_
            clear hO9_ hG9_ hv9_ x0d x1d
            go_wp2_with fail
            go_roundw
            case rel =>
              obtain ⟨h1, h2, h3, h4, h5, h6⟩ := hP.out
              have hfin := NetAt.pushed (k := ⟨bs, st, 0⟩) h1 h2 h3 h4 h5 h6 hB5.out hO9.out hG9.out hO5.out (by have := hBL.out; show bs.length ≤ _; omega) (by show (0 : Int) ≤ 0; decide) (by show (0 : Int) ≤ 1000; decide)
              exact ⟨k + 1, by omega, by go_num, by rw [hSn.out, hsn2.out]; simp; omega, by rw [hSn.out, hsn2.out]; exact hfin.1, KeptN_trans hK.out (KeptN_trans (Kept.of_below _ hBw.out) hfin.2)⟩
            case measure => simp [intOf]; omega
          · have dm1 : decide (most ≤ (kl.length : Int)) = true := by simp; omega
            have hsn : send1 cz most kl ⟨kind, from_, to_, g, node, try_, low, code, ticket, told, ops⟩ = kl := by unfold send1; rw [if_neg (fun h => hfull h.2.2)]
            have hsn2 := Lib.hid hsn
            clear hsn hmay hbl hfull hcut0
            go_wp2_with fail
            go_region_held3 (fun W => W.cell? ⟨p, 0, none⟩ = some (.int .i64 most) ∧ W.cell? ⟨p, 1, none⟩ = some (.slice A' kl.length c')) (first | (go_split_ands; with_reducible exact ⟨x0, x1⟩) | go_keep)
            ((first | (go_at_call 34; refine hPART.out.mono ?_; rintro e w3 ⟨rfl, rfl⟩)))
            all_goals
              go_wp2_with fail
              go_roundw
            case rel => exact ⟨k + 1, by omega, by go_num, by rw [hSn.out, hsn2.out], by rw [hSn.out, hsn2.out]; exact hN1.out.later (Below.refl _ _).drew, hK.out.trans (Kept.of_below (NS w p) (bnext hBw.out (Below.refl _ _).drew)) (fun _ _ h => h)⟩
            case measure => simp [intOf]; omega
    · have hkk : k = l.length := by omega
      subst hkk
      go_wp2_with fail
      go_ret
      have e : (l.map (·.m)).take l.length = l.map (·.m) := List.take_of_length_le (by simp)
      have hKL2 := hKL.out
      rw [e] at hKL2
      exact ⟨by rw [hKL2]; rfl, by rw [← hKL2]; exact hN.out, hK.out⟩
end Go.Proofs.YteeiacfddjhhkaaGreatDoor
