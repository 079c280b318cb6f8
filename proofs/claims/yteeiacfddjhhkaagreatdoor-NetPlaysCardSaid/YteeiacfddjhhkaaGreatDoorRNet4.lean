/- The document's net: Send. -/
import Derived.Test.YteeiacfddjhhkaaGreatDoorRNet3
import Derived.Test.YteeiacfddjhhkaaGreatDoorREnc
import Derived.Test.YteeiacfddjhhkaaGreatDoorSend
import Derived.Deep.QuietTactic
import Derived.BigQuiet
namespace Go.Proofs.YteeiacfddjhhkaaGreatDoor
open Go.RowKit
set_option maxRecDepth 100000
variable {cz : Cuts}
theorem way_site {m : PMsg} (h : mayM m = true) : siteM m = m.from_ + m.to_ ∧ 1 ≤ siteM m ∧ siteM m ≤ 3 := by
  have h1 : wayM m = true := by
    unfold mayM at h
    simp only [Bool.and_eq_true] at h
    exact h.1.1.1.1.1.1.1.1.1.2
  unfold wayM at h1
  unfold siteM
  split at h1 <;> simp [withinB] at h1 <;> split <;> omega
def goesM (cz : Cuts) (most : Int) (ks : List PK) (m : PMsg) : Bool := mayM m && !cutAt cz (siteM m) && decide ((ks.length : Int) < most)
theorem send1_goes (most : Int) (ks : List PK) (m : PMsg) : send1 cz most ks m = if goesM cz most ks m then ks ++ [⟨encM m, siteM m, 0⟩] else ks := by
  unfold send1 goesM
  cases mayM m <;> cases cutAt cz (siteM m) <;> simp
theorem RefAt.cuts {w : World} {p : Nat} {most : Int} {ks : List PK} (h : RefAt cz w p most ks) (st : Int) (h1 : 1 ≤ st ∧ st ≤ 3) : ∃ sn : Nat, st = sn ∧ sn < 4 ∧ w.cell? ⟨p, 2 + sn, none⟩ = some (.bool (cutAt cz st)) := by
  obtain ⟨A, c, vs, h1', _⟩ := h
  rcases (show st = 1 ∨ st = 2 ∨ st = 3 by omega) with rfl | rfl | rfl
  · exact ⟨1, rfl, by omega, by rw [block_cell h1']; simp [cutAt]⟩
  · exact ⟨2, rfl, by omega, by rw [block_cell h1']; simp [cutAt]⟩
  · exact ⟨3, rfl, by omega, by rw [block_cell h1']; simp [cutAt]⟩
set_option maxHeartbeats 2000000 in
theorem rsend_any (p : Nat) (most : Int) (ks : List PK) (m : PMsg) (A : Option Addr) (c : Nat) (B : Option Addr) (d : Nat) (w : World) (h : RefAt cz w p most ks) (hr : MsgR w m A c B d) (hl : ks.length ≤ 99999) :
    Calls Tryz.prog 49 #[.pointer (some ⟨p, 0, none⟩), .agg (msgA m A c B d)] w fun e w' => e = .returned (.bool (goesM cz most ks m)) ∧ RefAt cz w' p most (send1 cz most ks m) ∧ Kept (· = p) w w' := by
  have hN := Lib.hid h
  rw [send1_goes]
  have hEnc := fun W (hb : Below w.heap.size w W) => renc_any m A c B d W (hr.below hb) hr.opsle hr.toldle hr.keys
  obtain ⟨kind, from_, to_, g, node, try_, low, code, ticket, told, ops⟩ := m
  have hq := heap_alloc_new w (.cells (msgA ⟨kind, from_, to_, g, node, try_, low, code, ticket, told, ops⟩ A c B d) 31)
  have hBq := Lib.hid (below_alloc (Below.refl _ w) (.cells (msgA ⟨kind, from_, to_, g, node, try_, low, code, ticket, told, ops⟩ A c B d) 31))
  obtain ⟨bs, hbs⟩ : ∃ bs, encM ⟨kind, from_, to_, g, node, try_, low, code, ticket, told, ops⟩ = bs := ⟨_, rfl⟩
  rw [hbs] at hEnc ⊢
  have hx : Hid (∀ W, Below (w.alloc (.cells (msgA ⟨kind, from_, to_, g, node, try_, low, code, ticket, told, ops⟩ A c B d) 31)).heap.size (w.alloc (.cells (msgA ⟨kind, from_, to_, g, node, try_, low, code, ticket, told, ops⟩ A c B d) 31)) W → W.cell? ⟨w.heap.size, 1, none⟩ = some (.int .i64 from_) ∧ W.cell? ⟨w.heap.size, 2, none⟩ = some (.int .i64 to_)) := Lib.hid (fun W hW => by
    have e := block_below hW hq
    exact ⟨by rw [block_cell e]; rfl, by rw [block_cell e]; rfl⟩)
  obtain ⟨gw, hgw⟩ : ∃ gw, goesM cz most ks ⟨kind, from_, to_, g, node, try_, low, code, ticket, told, ops⟩ = gw := ⟨_, rfl⟩
  obtain ⟨st, hst⟩ : ∃ st, siteM ⟨kind, from_, to_, g, node, try_, low, code, ticket, told, ops⟩ = st := ⟨_, rfl⟩
  have hcase : Hid ((bs = [] ∧ gw = false) ∨ (bs.length ≠ 0 ∧ bs.length ≤ 100000 ∧ from_ + to_ = st ∧ 1 ≤ st ∧ st ≤ 3 ∧ gw = (!cutAt cz st && decide ((ks.length : Int) < most)))) := Lib.hid (by
    rw [← hgw, ← hbs]
    rcases encM_nil ⟨kind, from_, to_, g, node, try_, low, code, ticket, told, ops⟩ with ⟨h1, h2⟩ | ⟨h1, h2⟩
    · exact .inl ⟨List.eq_nil_of_length_eq_zero h2, by unfold goesM; rw [h1]; rfl⟩
    · obtain ⟨e1, e2, e3⟩ := way_site h1
      rw [hst] at e1 e2 e3
      exact .inr ⟨h2, Nat.le_trans encM_len (by omega), e1.symm, e2, e3, by unfold goesM; rw [h1, hst]; rfl⟩)
  rw [hgw, hst]
  simp only [msgA] at hEnc hq hBq hx ⊢
  have hEN := Lib.hid hEnc
  clear hEnc hq hbs hgw hst h hr
  go_enter Tryz.func49, Tryz.ntmps49
  go_wp2_with fail
  refine (hEN.out _ hBq.out).mono ?_
  rintro e w1 ⟨A1, c1, rfl, hO1_, hB1_⟩
  have hO1 := Lib.hid hO1_
  have hB1 := Lib.hid hB1_
  have hBB := Lib.hid (bnext hBq.out hB1_)
  obtain ⟨x1, x2⟩ := hx.out w1 hB1_
  have hN1 := Lib.hid (hN.out.later hBB.out)
  clear hO1_ hB1_
  have hN1' := hN1.out
  obtain ⟨AL, cL, vs, hb1, _⟩ := hN1'
  have y1 : w1.cell? ⟨p, 1, none⟩ = some (.slice AL ks.length cL) := by rw [block_cell hb1]; rfl
  have y0 : w1.cell? ⟨p, 0, none⟩ = some (.int .i64 most) := by rw [block_cell hb1]; rfl
  clear hb1
  rcases hcase.out with ⟨rfl, rfl⟩ | ⟨hb0, hb9, hst, hs1, hs3, hgw⟩
  · go_wp2_with fail
    go_quiet (fail)
    go_wp2_with fail
    refine bodyPost_ret (v := .bool false) ?_ rfl ⟨rfl, hN1.out.later (below_drewN (Below.refl _ _) nq), Kept.of_below _ (below_drewN hBB.out nq)⟩
    simp [results, Tryz.results49, go_sem]
  · have hw : IntKind.i64.wrap (from_ + to_) = st := by rw [IntKind.wrap_i64, hst]; omega
    obtain ⟨sn, rfl, hsn, yc⟩ := hN1.out.cuts st ⟨hs1, hs3⟩
    have hBL : Hid (bs.length ≤ 100000) := Lib.hid hb9
    have hd0 : decide ((bs.length : Int) = 0) = false := decide_eq_false (by omega)
    have hd1 : ((bs.length : Int) == 0) = false := beq_eq_false_iff_ne.2 (by omega)
    have hGW := Lib.hid hgw
    have hIn : Hid (1 ≤ sn ∧ sn ≤ 3) := Lib.hid (by omega)
    clear hb9 hst hgw hs1 hs3
    obtain ⟨cc, hcc⟩ : ∃ cc, cutAt cz (sn : Int) = cc := ⟨_, rfl⟩
    rw [hcc] at hGW yc
    cases cc
    · by_cases hm : (ks.length : Int) < most
      · have hdm : decide ((ks.length : Int) ≥ most) = false := decide_eq_false (by omega)
        have hdm2 : decide (most ≤ (ks.length : Int)) = false := decide_eq_false (by omega)
        have hg1 : gw = true := by have := hGW.out; simpa [hm] using this
        subst hg1
        go_wp2_with fail
        go_quiet (fail)
        go_wp2_with fail
        refine (put_any p most ks ks.length ⟨bs, (sn : Int), 0⟩ A1 c1 bs.length _ (hN1.out.later (below_drewN (Below.refl _ _) nq)) (Nat.le_refl _) (by omega) rfl hBL.out ((OB.lower hO1.out (Nat.zero_le _)).below (below_drewN (Below.refl _ _) nq)) (sn : Int) 0 rfl rfl).mono ?_
        rintro e w2 ⟨rfl, hN2_, hK2_⟩
        rw [List.insertIdx_length_self] at hN2_
        have hN2 := Lib.hid hN2_
        have hK2 := Lib.hid ((Kept.of_below (· = p) (below_drewN hBB.out nq)).trans hK2_ (fun _ _ h => h))
        clear hN2_ hK2_
        go_wp2_with fail
        refine bodyPost_ret (v := .bool true) ?_ rfl ⟨rfl, hN2.out, hK2.out⟩
        simp [results, Tryz.results49, go_sem]
      · have hdm : decide ((ks.length : Int) ≥ most) = true := decide_eq_true (by omega)
        have hdm2 : decide (most ≤ (ks.length : Int)) = true := decide_eq_true (by omega)
        have hg1 : gw = false := by have := hGW.out; simpa [hm] using this
        subst hg1
        go_wp2_with fail
        go_quiet (fail)
        go_wp2_with fail
        refine bodyPost_ret (v := .bool false) ?_ rfl ⟨rfl, hN1.out.later (below_drewN (Below.refl _ _) nq), Kept.of_below _ (below_drewN hBB.out nq)⟩
        simp [results, Tryz.results49, go_sem]
    · have hg1 : gw = false := by have := hGW.out; simpa using this
      subst hg1
      go_wp2_with fail
      go_quiet (fail)
      go_wp2_with fail
      refine bodyPost_ret (v := .bool false) ?_ rfl ⟨rfl, hN1.out.later (below_drewN (Below.refl _ _) nq), Kept.of_below _ (below_drewN hBB.out nq)⟩
      simp [results, Tryz.results49, go_sem]
end Go.Proofs.YteeiacfddjhhkaaGreatDoor
