/- What mess's check comes to. A part of mess's check: the messages of some kinds. A part of mess's check: the messages of some kinds. A part of mess's check: the messages of some kinds. A part of mess's check: the messages of some kinds. mess.May is the plain question mayM, for every message whose operations can be read. -/
import Derived.Test.YteeiacfddjhhkaaGreatDoorMsg
namespace Go.Proofs.YteeiacfddjhhkaaGreatDoor
open Go.RowKit
set_option maxRecDepth 100000

def CheckRet (m : PMsg) (w : World) (en : Ending) (w' : World) : Prop :=
  (mayM m = true ∧ en = .returned .nilIface ∧ Below w.heap.size w w') ∨ (mayM m = false ∧ ∃ (T : Nat) (b : Addr), en = .returned (.iface T (.pointer (some b))) ∧ Below w.heap.size w w')
end Go.Proofs.YteeiacfddjhhkaaGreatDoor
namespace Go.Proofs.YteeiacfddjhhkaaGreatDoor
open Go.RowKit
set_option maxRecDepth 100000

set_option maxHeartbeats 4000000 in
theorem check_4 (m : PMsg) (A : Option Addr) (c : Nat) (B : Option Addr) (d : Nat) (w : World) (hr : RowAt w B (opsC m.ops)) (hl : m.ops.length ≤ 1000000) (hl2 : m.told.length ≤ 1000000) (hk : ∀ o ∈ m.ops, o.key.size ≤ 1000000) (hG : GOk w) (hq : m.kind ≤ 4) :
    Calls Tryz.prog 75 #[.agg (msgA m A c B d)] w (CheckRet m w) := by
  obtain ⟨kind, from_, to_, g, node, try_, low, code, ticket, told, ops⟩ := m
  simp only at hr hl hl2 hk hq
  have hR := Lib.hid hr
  have hK := Lib.hid hk
  have hGG := Lib.hid hG
  clear hr hk hG
  show Calls Tryz.prog 75 #[.agg #[.int .i64 kind, .int .i64 from_, .int .i64 to_, .int .i64 g, .int .i64 node, .int .i64 try_, .int .i64 low, .int .i64 code, .int .i64 ticket, .slice A told.length c, .slice B ops.length d]] w _
  have hb0 := Lib.hid (heap_alloc_new w (.cells #[.int .i64 kind, .int .i64 from_, .int .i64 to_, .int .i64 g, .int .i64 node, .int .i64 try_, .int .i64 low, .int .i64 code, .int .i64 ticket, .slice A told.length c, .slice B ops.length d] 37))
  have hB0 := Lib.hid (below_alloc (Below.refl _ w) (.cells #[.int .i64 kind, .int .i64 from_, .int .i64 to_, .int .i64 g, .int .i64 node, .int .i64 try_, .int .i64 low, .int .i64 code, .int .i64 ticket, .slice A told.length c, .slice B ops.length d] 37))
  go_enter Tryz.func75, Tryz.ntmps75
  go_wp2_with fail
  refine (known_any ⟨kind, from_, to_, g, node, try_, low, code, ticket, told, ops⟩ A c B d _).mono ?_
  rintro en w1 ⟨rfl, hB1_⟩
  have hB1 := Lib.hid (bnext hB0.out hB1_)
  have hb1 := Lib.hid (block_below hB1_ hb0.out)
  clear hB1_
  cases h1 : knownM ⟨kind, from_, to_, g, node, try_, low, code, ticket, told, ops⟩
  · skip
    have hMF : Hid (mayM ⟨kind, from_, to_, g, node, try_, low, code, ticket, told, ops⟩ = false) := Lib.hid (by unfold mayM; rw [h1]; rfl)
    go_wp2_with fail
    refine (new_err 6 (by decide) _).mono ?_
    rintro en w8 ⟨T, b, rfl, hE_, hB8_⟩
    have hE := Lib.hid hE_
    have hB8 := Lib.hid (bnext hB1.out hB8_)
    clear hE_ hB8_
    go_wp2_with fail
    refine (in_any _ _ 6 _ hE.out).mono ?_
    rintro en w9 ⟨T2, b2, rfl, hE2, hB9⟩
    have hB10 := Lib.hid (bnext hB8.out hB9)
    clear hE2 hB9
    go_wp2_with fail
    go_ret
    exact .inr ⟨hMF.out, T2, _, rfl, hB10.out⟩
  · have H1 := Lib.hid h1
    clear h1
    obtain ⟨x0, x1, x2, x3, x4, x5, x6, x7, x8, x9, x10⟩ := msg_cells hb1.out
    go_wp2_with fail
    refine (way_any ⟨kind, from_, to_, g, node, try_, low, code, ticket, told, ops⟩ A c B d _).mono ?_
    rintro en w2 ⟨rfl, hB2_⟩
    have hB2 := Lib.hid (bnext hB1.out hB2_)
    have hb2 := Lib.hid (block_below hB2_ hb1.out)
    clear hB2_
    clear x0 x1 x2 x3 x4 x5 x6 x7 x8 x9 x10
    cases h2 : wayM ⟨kind, from_, to_, g, node, try_, low, code, ticket, told, ops⟩
    · skip
      have hMF : Hid (mayM ⟨kind, from_, to_, g, node, try_, low, code, ticket, told, ops⟩ = false) := Lib.hid (by unfold mayM; rw [h2]; simp)
      go_wp2_with fail
      refine (new_err 6 (by decide) _).mono ?_
      rintro en w8 ⟨T, b, rfl, hE_, hB8_⟩
      have hE := Lib.hid hE_
      have hB8 := Lib.hid (bnext hB2.out hB8_)
      clear hE_ hB8_
      go_wp2_with fail
      refine (in_any _ _ 6 _ hE.out).mono ?_
      rintro en w9 ⟨T2, b2, rfl, hE2, hB9⟩
      have hB10 := Lib.hid (bnext hB8.out hB9)
      clear hE2 hB9
      go_wp2_with fail
      go_ret
      exact .inr ⟨hMF.out, T2, _, rfl, hB10.out⟩
    · have H2 := Lib.hid h2
      clear h2
      have x0 : w2.cell? ⟨w.heap.size, 0, none⟩ = some (.int .i64 kind) := by rw [block_cell hb2.out]; rfl
      have x3 : w2.cell? ⟨w.heap.size, 3, none⟩ = some (.int .i64 g) := by rw [block_cell hb2.out]; rfl
      have x4 : w2.cell? ⟨w.heap.size, 4, none⟩ = some (.int .i64 node) := by rw [block_cell hb2.out]; rfl
      have x5 : w2.cell? ⟨w.heap.size, 5, none⟩ = some (.int .i64 try_) := by rw [block_cell hb2.out]; rfl
      have x6 : w2.cell? ⟨w.heap.size, 6, none⟩ = some (.int .i64 low) := by rw [block_cell hb2.out]; rfl
      have x7 : w2.cell? ⟨w.heap.size, 7, none⟩ = some (.int .i64 code) := by rw [block_cell hb2.out]; rfl
      have x8 : w2.cell? ⟨w.heap.size, 8, none⟩ = some (.int .i64 ticket) := by rw [block_cell hb2.out]; rfl
      have x9 : w2.cell? ⟨w.heap.size, 9, none⟩ = some (.slice A told.length c) := by rw [block_cell hb2.out]; rfl
      have x10 : w2.cell? ⟨w.heap.size, 10, none⟩ = some (.slice B ops.length d) := by rw [block_cell hb2.out]; rfl
      go_wp2_with fail
      refine (within_any _ _ _ _).mono ?_
      rintro en w' ⟨rfl, rfl⟩
      cases h3 : withinB g 1 1048576
      · skip
        have hMF : Hid (mayM ⟨kind, from_, to_, g, node, try_, low, code, ticket, told, ops⟩ = false) := Lib.hid (by unfold mayM; simp only; rw [h3]; simp)
        go_wp2_with fail
        refine (new_err 6 (by decide) _).mono ?_
        rintro en w8 ⟨T, b, rfl, hE_, hB8_⟩
        have hE := Lib.hid hE_
        have hB8 := Lib.hid (bnext hB2.out hB8_)
        clear hE_ hB8_
        go_wp2_with fail
        refine (in_any _ _ 6 _ hE.out).mono ?_
        rintro en w9 ⟨T2, b2, rfl, hE2, hB9⟩
        have hB10 := Lib.hid (bnext hB8.out hB9)
        clear hE2 hB9
        go_wp2_with fail
        go_ret
        exact .inr ⟨hMF.out, T2, _, rfl, hB10.out⟩
      · have H3 := Lib.hid h3
        clear h3
        go_wp2_with fail
        refine (within_any _ _ _ _).mono ?_
        rintro en w' ⟨rfl, rfl⟩
        cases h4 : withinB node 0 255
        · skip
          have hMF : Hid (mayM ⟨kind, from_, to_, g, node, try_, low, code, ticket, told, ops⟩ = false) := Lib.hid (by unfold mayM; simp only; rw [h4]; simp)
          go_wp2_with fail
          refine (new_err 6 (by decide) _).mono ?_
          rintro en w8 ⟨T, b, rfl, hE_, hB8_⟩
          have hE := Lib.hid hE_
          have hB8 := Lib.hid (bnext hB2.out hB8_)
          clear hE_ hB8_
          go_wp2_with fail
          refine (in_any _ _ 6 _ hE.out).mono ?_
          rintro en w9 ⟨T2, b2, rfl, hE2, hB9⟩
          have hB10 := Lib.hid (bnext hB8.out hB9)
          clear hE2 hB9
          go_wp2_with fail
          go_ret
          exact .inr ⟨hMF.out, T2, _, rfl, hB10.out⟩
        · have H4 := Lib.hid h4
          clear h4
          go_wp2_with fail
          refine (within_any _ _ _ _).mono ?_
          rintro en w' ⟨rfl, rfl⟩
          cases h5 : withinB try_ 0 1048576
          · skip
            have hMF : Hid (mayM ⟨kind, from_, to_, g, node, try_, low, code, ticket, told, ops⟩ = false) := Lib.hid (by unfold mayM; simp only; rw [h5]; simp)
            go_wp2_with fail
            refine (new_err 6 (by decide) _).mono ?_
            rintro en w8 ⟨T, b, rfl, hE_, hB8_⟩
            have hE := Lib.hid hE_
            have hB8 := Lib.hid (bnext hB2.out hB8_)
            clear hE_ hB8_
            go_wp2_with fail
            refine (in_any _ _ 6 _ hE.out).mono ?_
            rintro en w9 ⟨T2, b2, rfl, hE2, hB9⟩
            have hB10 := Lib.hid (bnext hB8.out hB9)
            clear hE2 hB9
            go_wp2_with fail
            go_ret
            exact .inr ⟨hMF.out, T2, _, rfl, hB10.out⟩
          · have H5 := Lib.hid h5
            clear h5
            have hk4 : decide (kind ≤ 4) = true := decide_eq_true hq
            have n12 : (kind == 12) = false := by simp; omega
            have n14 : (kind == 14) = false := by simp; omega
            have hk12 : Hid ((kind == 12 || kind == 14) = false) := Lib.hid (by rw [n12, n14]; rfl)
            go_wp2_with fail
            refine (within_any _ _ _ _).mono ?_
            rintro en w' ⟨rfl, rfl⟩
            cases h6 : withinB low 1 1048577
            · skip
              have hMF : Hid (mayM ⟨kind, from_, to_, g, node, try_, low, code, ticket, told, ops⟩ = false) := Lib.hid (by unfold mayM; simp only; rw [h6, hk4]; simp)
              go_wp2_with fail
              refine (new_err 6 (by decide) _).mono ?_
              rintro en w8 ⟨T, b, rfl, hE_, hB8_⟩
              have hE := Lib.hid hE_
              have hB8 := Lib.hid (bnext hB2.out hB8_)
              clear hE_ hB8_
              go_wp2_with fail
              refine (in_any _ _ 6 _ hE.out).mono ?_
              rintro en w9 ⟨T2, b2, rfl, hE2, hB9⟩
              have hB10 := Lib.hid (bnext hB8.out hB9)
              clear hE2 hB9
              go_wp2_with fail
              go_ret
              exact .inr ⟨hMF.out, T2, _, rfl, hB10.out⟩
            · have H6 := Lib.hid h6
              clear h6
              by_cases ht : ticket < 0
              · have ht2 : decide (ticket < 0) = true := decide_eq_true ht
                have hMF : Hid (mayM ⟨kind, from_, to_, g, node, try_, low, code, ticket, told, ops⟩ = false) := Lib.hid (by unfold mayM; simp only; rw [ht2]; simp)
                go_wp2_with fail
                refine (new_err 6 (by decide) _).mono ?_
                rintro en w8 ⟨T, b, rfl, hE_, hB8_⟩
                have hE := Lib.hid hE_
                have hB8 := Lib.hid (bnext hB2.out hB8_)
                clear hE_ hB8_
                go_wp2_with fail
                refine (in_any _ _ 6 _ hE.out).mono ?_
                rintro en w9 ⟨T2, b2, rfl, hE2, hB9⟩
                have hB10 := Lib.hid (bnext hB8.out hB9)
                clear hE2 hB9
                go_wp2_with fail
                go_ret
                exact .inr ⟨hMF.out, T2, _, rfl, hB10.out⟩
              · have ht2 : decide (ticket < 0) = false := decide_eq_false ht
                by_cases h8 : 8 < told.length
                · have h82 : decide (8 < told.length) = true := decide_eq_true h8
                  have h83 : decide (8 < (told.length : Int)) = true := decide_eq_true (by omega)
                  have hMF : Hid (mayM ⟨kind, from_, to_, g, node, try_, low, code, ticket, told, ops⟩ = false) := Lib.hid (by unfold mayM; simp only; rw [h82]; simp)
                  go_wp2_with fail
                  refine (new_err 6 (by decide) _).mono ?_
                  rintro en w8 ⟨T, b, rfl, hE_, hB8_⟩
                  have hE := Lib.hid hE_
                  have hB8 := Lib.hid (bnext hB2.out hB8_)
                  clear hE_ hB8_
                  go_wp2_with fail
                  refine (in_any _ _ 6 _ hE.out).mono ?_
                  rintro en w9 ⟨T2, b2, rfl, hE2, hB9⟩
                  have hB10 := Lib.hid (bnext hB8.out hB9)
                  clear hE2 hB9
                  go_wp2_with fail
                  go_ret
                  exact .inr ⟨hMF.out, T2, _, rfl, hB10.out⟩
                · have h82 : decide (8 < told.length) = false := decide_eq_false h8
                  have h83 : decide (8 < (told.length : Int)) = false := decide_eq_false (by omega)
                  go_wp2_with fail
                  refine (opsCheckE_any B d ops _ (hR.out.below hB2.out) hl hK.out (hGG.out.below hB2.out)).mono ?_
                  rintro en w3 ⟨rfl, hB3_⟩
                  have hB3 := Lib.hid (bnext hB2.out hB3_)
                  have hb3 := Lib.hid (block_below hB3_ hb2.out)
                  clear hB3_
                  clear x0 x3 x4 x5 x6 x7 x8 x9 x10
                  cases h9 : (checkO ops == 0)
                  · have h9' : (checkO ops != 0) = true := by rw [bne, h9]; rfl
                    have hMF : Hid (mayM ⟨kind, from_, to_, g, node, try_, low, code, ticket, told, ops⟩ = false) := Lib.hid (by unfold mayM; simp only; rw [h9]; simp)
                    go_wp2_with fail
                    refine (new_err 6 (by decide) _).mono ?_
                    rintro en w8 ⟨T, b, rfl, hE_, hB8_⟩
                    have hE := Lib.hid hE_
                    have hB8 := Lib.hid (bnext hB3.out hB8_)
                    clear hE_ hB8_
                    go_wp2_with fail
                    refine (in_any _ _ 6 _ hE.out).mono ?_
                    rintro en w9 ⟨T2, b2, rfl, hE2, hB9⟩
                    have hB10 := Lib.hid (bnext hB8.out hB9)
                    clear hE2 hB9
                    go_wp2_with fail
                    go_ret
                    exact .inr ⟨hMF.out, T2, _, rfl, hB10.out⟩
                  · have h9' : (checkO ops != 0) = false := by rw [bne, h9]; rfl
                    have H9 := Lib.hid h9
                    clear h9
                    obtain ⟨x0, x1, x2, x3, x4, x5, x6, x7, x8, x9, x10⟩ := msg_cells hb3.out
                    go_wp2_with fail
                    refine (bare_any ⟨kind, from_, to_, g, node, try_, low, code, ticket, told, ops⟩ A c B d _).mono ?_
                    rintro en w4 ⟨rfl, hB4_⟩
                    have hB4 := Lib.hid (bnext hB3.out hB4_)
                    clear hB4_ h9' 
                    clear x0 x1 x2 x3 x4 x5 x6 x7 x8 x9 x10
                    have hN : Hid (mayM ⟨kind, from_, to_, g, node, try_, low, code, ticket, told, ops⟩ = nothingM (bareM ⟨kind, from_, to_, g, node, try_, low, code, ticket, told, ops⟩)) := Lib.hid (by unfold mayM; simp only; rw [H1.out, H2.out, H3.out, H4.out, H5.out, H6.out, ht2, h82, H9.out, hk4, hk12.out]; simp)
                    have hL : (bareM ⟨kind, from_, to_, g, node, try_, low, code, ticket, told, ops⟩).told.length ≤ 1000000 ∧ (bareM ⟨kind, from_, to_, g, node, try_, low, code, ticket, told, ops⟩).ops.length ≤ 1000000 := by
                      unfold bareM
                      simp only
                      split
                      · exact ⟨hl2, by simp⟩
                      split
                      · exact ⟨hl2, hl⟩
                      split
                      · exact ⟨hl2, hl⟩
                      split
                      · exact ⟨by simp, hl⟩
                      split
                      · exact ⟨hl2, hl⟩
                      · exact ⟨hl2, hl⟩
                    generalize bareA ⟨kind, from_, to_, g, node, try_, low, code, ticket, told, ops⟩ A = A2
                    generalize bareC ⟨kind, from_, to_, g, node, try_, low, code, ticket, told, ops⟩ c = c2
                    generalize bareP ⟨kind, from_, to_, g, node, try_, low, code, ticket, told, ops⟩ B = B2
                    generalize bareQ ⟨kind, from_, to_, g, node, try_, low, code, ticket, told, ops⟩ d = d2
                    generalize bareM ⟨kind, from_, to_, g, node, try_, low, code, ticket, told, ops⟩ = q at *
                    obtain ⟨qk, qf, qt, qg, qn, qy, ql, qc, qi, qs, qo⟩ := q
                    simp only at hL
                    obtain ⟨hL1, hL2⟩ := hL
                    have hB5 := Lib.hid (below_alloc hB4.out (.cells (msgA ⟨qk, qf, qt, qg, qn, qy, ql, qc, qi, qs, qo⟩ A2 c2 B2 d2) 37))
                    unfold msgA at *
                    simp only at *
                    cases e1 : (qy == 0)
                    · have f1 : (qy != 0) = true := by rw [bne, e1]; rfl
                      have hMF : Hid (mayM ⟨kind, from_, to_, g, node, try_, low, code, ticket, told, ops⟩ = false) := Lib.hid (by rw [hN.out, nothingM]; simp only; rw [e1]; simp)
                      go_wp2_with fail
                      refine (new_err 6 (by decide) _).mono ?_
                      rintro en w8 ⟨T, b, rfl, hE_, hB8_⟩
                      have hE := Lib.hid hE_
                      have hB8 := Lib.hid (bnext hB5.out hB8_)
                      clear hE_ hB8_
                      go_wp2_with fail
                      refine (in_any _ _ 6 _ hE.out).mono ?_
                      rintro en w9 ⟨T2, b2, rfl, hE2, hB9⟩
                      have hB10 := Lib.hid (bnext hB8.out hB9)
                      clear hE2 hB9
                      go_wp2_with fail
                      go_ret
                      exact .inr ⟨hMF.out, T2, _, rfl, hB10.out⟩
                    · obtain rfl : qy = 0 := by simpa using e1
                      clear e1
                      cases e2 : (ql == 0)
                      · have f2 : (ql != 0) = true := by rw [bne, e2]; rfl
                        have hMF : Hid (mayM ⟨kind, from_, to_, g, node, try_, low, code, ticket, told, ops⟩ = false) := Lib.hid (by rw [hN.out, nothingM]; simp only; rw [e2]; simp)
                        go_wp2_with fail
                        refine (new_err 6 (by decide) _).mono ?_
                        rintro en w8 ⟨T, b, rfl, hE_, hB8_⟩
                        have hE := Lib.hid hE_
                        have hB8 := Lib.hid (bnext hB5.out hB8_)
                        clear hE_ hB8_
                        go_wp2_with fail
                        refine (in_any _ _ 6 _ hE.out).mono ?_
                        rintro en w9 ⟨T2, b2, rfl, hE2, hB9⟩
                        have hB10 := Lib.hid (bnext hB8.out hB9)
                        clear hE2 hB9
                        go_wp2_with fail
                        go_ret
                        exact .inr ⟨hMF.out, T2, _, rfl, hB10.out⟩
                      · obtain rfl : ql = 0 := by simpa using e2
                        clear e2
                        cases e3 : (qc == 0)
                        · have f3 : (qc != 0) = true := by rw [bne, e3]; rfl
                          have hMF : Hid (mayM ⟨kind, from_, to_, g, node, try_, low, code, ticket, told, ops⟩ = false) := Lib.hid (by rw [hN.out, nothingM]; simp only; rw [e3]; simp)
                          go_wp2_with fail
                          refine (new_err 6 (by decide) _).mono ?_
                          rintro en w8 ⟨T, b, rfl, hE_, hB8_⟩
                          have hE := Lib.hid hE_
                          have hB8 := Lib.hid (bnext hB5.out hB8_)
                          clear hE_ hB8_
                          go_wp2_with fail
                          refine (in_any _ _ 6 _ hE.out).mono ?_
                          rintro en w9 ⟨T2, b2, rfl, hE2, hB9⟩
                          have hB10 := Lib.hid (bnext hB8.out hB9)
                          clear hE2 hB9
                          go_wp2_with fail
                          go_ret
                          exact .inr ⟨hMF.out, T2, _, rfl, hB10.out⟩
                        · obtain rfl : qc = 0 := by simpa using e3
                          clear e3
                          cases e4 : (qi == 0)
                          · have f4 : (qi != 0) = true := by rw [bne, e4]; rfl
                            have hMF : Hid (mayM ⟨kind, from_, to_, g, node, try_, low, code, ticket, told, ops⟩ = false) := Lib.hid (by rw [hN.out, nothingM]; simp only; rw [e4]; simp)
                            go_wp2_with fail
                            refine (new_err 6 (by decide) _).mono ?_
                            rintro en w8 ⟨T, b, rfl, hE_, hB8_⟩
                            have hE := Lib.hid hE_
                            have hB8 := Lib.hid (bnext hB5.out hB8_)
                            clear hE_ hB8_
                            go_wp2_with fail
                            refine (in_any _ _ 6 _ hE.out).mono ?_
                            rintro en w9 ⟨T2, b2, rfl, hE2, hB9⟩
                            have hB10 := Lib.hid (bnext hB8.out hB9)
                            clear hE2 hB9
                            go_wp2_with fail
                            go_ret
                            exact .inr ⟨hMF.out, T2, _, rfl, hB10.out⟩
                          · obtain rfl : qi = 0 := by simpa using e4
                            clear e4
                            cases e5 : (qs.length + qo.length == 0)
                            · have f5 : 0 < qs.length + qo.length := Nat.pos_of_ne_zero (beq_eq_false_iff_ne.mp e5)
                              have f6 : decide (0 < (qs.length : Int) + (qo.length : Int)) = true := decide_eq_true (by omega)
                              have hMF : Hid (mayM ⟨kind, from_, to_, g, node, try_, low, code, ticket, told, ops⟩ = false) := Lib.hid (by rw [hN.out, nothingM]; simp only; rw [e5]; simp)
                              go_wp2_with fail
                              refine (new_err 6 (by decide) _).mono ?_
                              rintro en w8 ⟨T, b, rfl, hE_, hB8_⟩
                              have hE := Lib.hid hE_
                              have hB8 := Lib.hid (bnext hB5.out hB8_)
                              clear hE_ hB8_
                              go_wp2_with fail
                              refine (in_any _ _ 6 _ hE.out).mono ?_
                              rintro en w9 ⟨T2, b2, rfl, hE2, hB9⟩
                              have hB10 := Lib.hid (bnext hB8.out hB9)
                              clear hE2 hB9
                              go_wp2_with fail
                              go_ret
                              exact .inr ⟨hMF.out, T2, _, rfl, hB10.out⟩
                            · have f5 : ¬ 0 < qs.length + qo.length := by have := beq_iff_eq.mp e5; omega
                              have f6 : decide (0 < (qs.length : Int) + (qo.length : Int)) = false := decide_eq_false (by omega)
                              have hMT : Hid (mayM ⟨kind, from_, to_, g, node, try_, low, code, ticket, told, ops⟩ = true) := Lib.hid (by rw [hN.out, nothingM]; simp only; rw [e5]; rfl)
                              clear e5
                              go_wp2_with fail
                              go_ret
                              exact .inl ⟨hMT.out, rfl, hB5.out⟩
end Go.Proofs.YteeiacfddjhhkaaGreatDoor
namespace Go.Proofs.YteeiacfddjhhkaaGreatDoor
open Go.RowKit
set_option maxRecDepth 100000

set_option maxHeartbeats 4000000 in
theorem check_12 (m : PMsg) (A : Option Addr) (c : Nat) (B : Option Addr) (d : Nat) (w : World) (hr : RowAt w B (opsC m.ops)) (hl : m.ops.length ≤ 1000000) (hl2 : m.told.length ≤ 1000000) (hk : ∀ o ∈ m.ops, o.key.size ≤ 1000000) (hG : GOk w) (hq : (m.kind == 12) = true) :
    Calls Tryz.prog 75 #[.agg (msgA m A c B d)] w (CheckRet m w) := by
  obtain ⟨kind, from_, to_, g, node, try_, low, code, ticket, told, ops⟩ := m
  simp only at hr hl hl2 hk hq
  have hR := Lib.hid hr
  have hK := Lib.hid hk
  have hGG := Lib.hid hG
  clear hr hk hG
  show Calls Tryz.prog 75 #[.agg #[.int .i64 kind, .int .i64 from_, .int .i64 to_, .int .i64 g, .int .i64 node, .int .i64 try_, .int .i64 low, .int .i64 code, .int .i64 ticket, .slice A told.length c, .slice B ops.length d]] w _
  have hb0 := Lib.hid (heap_alloc_new w (.cells #[.int .i64 kind, .int .i64 from_, .int .i64 to_, .int .i64 g, .int .i64 node, .int .i64 try_, .int .i64 low, .int .i64 code, .int .i64 ticket, .slice A told.length c, .slice B ops.length d] 37))
  have hB0 := Lib.hid (below_alloc (Below.refl _ w) (.cells #[.int .i64 kind, .int .i64 from_, .int .i64 to_, .int .i64 g, .int .i64 node, .int .i64 try_, .int .i64 low, .int .i64 code, .int .i64 ticket, .slice A told.length c, .slice B ops.length d] 37))
  go_enter Tryz.func75, Tryz.ntmps75
  go_wp2_with fail
  refine (known_any ⟨kind, from_, to_, g, node, try_, low, code, ticket, told, ops⟩ A c B d _).mono ?_
  rintro en w1 ⟨rfl, hB1_⟩
  have hB1 := Lib.hid (bnext hB0.out hB1_)
  have hb1 := Lib.hid (block_below hB1_ hb0.out)
  clear hB1_
  cases h1 : knownM ⟨kind, from_, to_, g, node, try_, low, code, ticket, told, ops⟩
  · skip
    have hMF : Hid (mayM ⟨kind, from_, to_, g, node, try_, low, code, ticket, told, ops⟩ = false) := Lib.hid (by unfold mayM; rw [h1]; rfl)
    go_wp2_with fail
    refine (new_err 6 (by decide) _).mono ?_
    rintro en w8 ⟨T, b, rfl, hE_, hB8_⟩
    have hE := Lib.hid hE_
    have hB8 := Lib.hid (bnext hB1.out hB8_)
    clear hE_ hB8_
    go_wp2_with fail
    refine (in_any _ _ 6 _ hE.out).mono ?_
    rintro en w9 ⟨T2, b2, rfl, hE2, hB9⟩
    have hB10 := Lib.hid (bnext hB8.out hB9)
    clear hE2 hB9
    go_wp2_with fail
    go_ret
    exact .inr ⟨hMF.out, T2, _, rfl, hB10.out⟩
  · have H1 := Lib.hid h1
    clear h1
    obtain ⟨x0, x1, x2, x3, x4, x5, x6, x7, x8, x9, x10⟩ := msg_cells hb1.out
    go_wp2_with fail
    refine (way_any ⟨kind, from_, to_, g, node, try_, low, code, ticket, told, ops⟩ A c B d _).mono ?_
    rintro en w2 ⟨rfl, hB2_⟩
    have hB2 := Lib.hid (bnext hB1.out hB2_)
    have hb2 := Lib.hid (block_below hB2_ hb1.out)
    clear hB2_
    clear x0 x1 x2 x3 x4 x5 x6 x7 x8 x9 x10
    cases h2 : wayM ⟨kind, from_, to_, g, node, try_, low, code, ticket, told, ops⟩
    · skip
      have hMF : Hid (mayM ⟨kind, from_, to_, g, node, try_, low, code, ticket, told, ops⟩ = false) := Lib.hid (by unfold mayM; rw [h2]; simp)
      go_wp2_with fail
      refine (new_err 6 (by decide) _).mono ?_
      rintro en w8 ⟨T, b, rfl, hE_, hB8_⟩
      have hE := Lib.hid hE_
      have hB8 := Lib.hid (bnext hB2.out hB8_)
      clear hE_ hB8_
      go_wp2_with fail
      refine (in_any _ _ 6 _ hE.out).mono ?_
      rintro en w9 ⟨T2, b2, rfl, hE2, hB9⟩
      have hB10 := Lib.hid (bnext hB8.out hB9)
      clear hE2 hB9
      go_wp2_with fail
      go_ret
      exact .inr ⟨hMF.out, T2, _, rfl, hB10.out⟩
    · have H2 := Lib.hid h2
      clear h2
      have x0 : w2.cell? ⟨w.heap.size, 0, none⟩ = some (.int .i64 kind) := by rw [block_cell hb2.out]; rfl
      have x3 : w2.cell? ⟨w.heap.size, 3, none⟩ = some (.int .i64 g) := by rw [block_cell hb2.out]; rfl
      have x4 : w2.cell? ⟨w.heap.size, 4, none⟩ = some (.int .i64 node) := by rw [block_cell hb2.out]; rfl
      have x5 : w2.cell? ⟨w.heap.size, 5, none⟩ = some (.int .i64 try_) := by rw [block_cell hb2.out]; rfl
      have x6 : w2.cell? ⟨w.heap.size, 6, none⟩ = some (.int .i64 low) := by rw [block_cell hb2.out]; rfl
      have x7 : w2.cell? ⟨w.heap.size, 7, none⟩ = some (.int .i64 code) := by rw [block_cell hb2.out]; rfl
      have x8 : w2.cell? ⟨w.heap.size, 8, none⟩ = some (.int .i64 ticket) := by rw [block_cell hb2.out]; rfl
      have x9 : w2.cell? ⟨w.heap.size, 9, none⟩ = some (.slice A told.length c) := by rw [block_cell hb2.out]; rfl
      have x10 : w2.cell? ⟨w.heap.size, 10, none⟩ = some (.slice B ops.length d) := by rw [block_cell hb2.out]; rfl
      go_wp2_with fail
      refine (within_any _ _ _ _).mono ?_
      rintro en w' ⟨rfl, rfl⟩
      cases h3 : withinB g 1 1048576
      · skip
        have hMF : Hid (mayM ⟨kind, from_, to_, g, node, try_, low, code, ticket, told, ops⟩ = false) := Lib.hid (by unfold mayM; simp only; rw [h3]; simp)
        go_wp2_with fail
        refine (new_err 6 (by decide) _).mono ?_
        rintro en w8 ⟨T, b, rfl, hE_, hB8_⟩
        have hE := Lib.hid hE_
        have hB8 := Lib.hid (bnext hB2.out hB8_)
        clear hE_ hB8_
        go_wp2_with fail
        refine (in_any _ _ 6 _ hE.out).mono ?_
        rintro en w9 ⟨T2, b2, rfl, hE2, hB9⟩
        have hB10 := Lib.hid (bnext hB8.out hB9)
        clear hE2 hB9
        go_wp2_with fail
        go_ret
        exact .inr ⟨hMF.out, T2, _, rfl, hB10.out⟩
      · have H3 := Lib.hid h3
        clear h3
        go_wp2_with fail
        refine (within_any _ _ _ _).mono ?_
        rintro en w' ⟨rfl, rfl⟩
        cases h4 : withinB node 0 255
        · skip
          have hMF : Hid (mayM ⟨kind, from_, to_, g, node, try_, low, code, ticket, told, ops⟩ = false) := Lib.hid (by unfold mayM; simp only; rw [h4]; simp)
          go_wp2_with fail
          refine (new_err 6 (by decide) _).mono ?_
          rintro en w8 ⟨T, b, rfl, hE_, hB8_⟩
          have hE := Lib.hid hE_
          have hB8 := Lib.hid (bnext hB2.out hB8_)
          clear hE_ hB8_
          go_wp2_with fail
          refine (in_any _ _ 6 _ hE.out).mono ?_
          rintro en w9 ⟨T2, b2, rfl, hE2, hB9⟩
          have hB10 := Lib.hid (bnext hB8.out hB9)
          clear hE2 hB9
          go_wp2_with fail
          go_ret
          exact .inr ⟨hMF.out, T2, _, rfl, hB10.out⟩
        · have H4 := Lib.hid h4
          clear h4
          go_wp2_with fail
          refine (within_any _ _ _ _).mono ?_
          rintro en w' ⟨rfl, rfl⟩
          cases h5 : withinB try_ 0 1048576
          · skip
            have hMF : Hid (mayM ⟨kind, from_, to_, g, node, try_, low, code, ticket, told, ops⟩ = false) := Lib.hid (by unfold mayM; simp only; rw [h5]; simp)
            go_wp2_with fail
            refine (new_err 6 (by decide) _).mono ?_
            rintro en w8 ⟨T, b, rfl, hE_, hB8_⟩
            have hE := Lib.hid hE_
            have hB8 := Lib.hid (bnext hB2.out hB8_)
            clear hE_ hB8_
            go_wp2_with fail
            refine (in_any _ _ 6 _ hE.out).mono ?_
            rintro en w9 ⟨T2, b2, rfl, hE2, hB9⟩
            have hB10 := Lib.hid (bnext hB8.out hB9)
            clear hE2 hB9
            go_wp2_with fail
            go_ret
            exact .inr ⟨hMF.out, T2, _, rfl, hB10.out⟩
          · have H5 := Lib.hid h5
            clear h5
            have hk4 : decide (kind ≤ 4) = false := decide_eq_false (by simp at hq; omega)
            have n12 : (kind == 12) = true := hq
            have hk12 : Hid ((kind == 12 || kind == 14) = true) := Lib.hid (by rw [n12]; rfl)
            go_wp2_with fail
            refine (within_any _ _ _ _).mono ?_
            rintro en w' ⟨rfl, rfl⟩
            cases h7 : withinB code 1 99
            · skip
              have hMF : Hid (mayM ⟨kind, from_, to_, g, node, try_, low, code, ticket, told, ops⟩ = false) := Lib.hid (by unfold mayM; simp only; rw [h7, hk12.out]; simp)
              go_wp2_with fail
              refine (new_err 6 (by decide) _).mono ?_
              rintro en w8 ⟨T, b, rfl, hE_, hB8_⟩
              have hE := Lib.hid hE_
              have hB8 := Lib.hid (bnext hB2.out hB8_)
              clear hE_ hB8_
              go_wp2_with fail
              refine (in_any _ _ 6 _ hE.out).mono ?_
              rintro en w9 ⟨T2, b2, rfl, hE2, hB9⟩
              have hB10 := Lib.hid (bnext hB8.out hB9)
              clear hE2 hB9
              go_wp2_with fail
              go_ret
              exact .inr ⟨hMF.out, T2, _, rfl, hB10.out⟩
            · have H7 := Lib.hid h7
              clear h7
              by_cases ht : ticket < 0
              · have ht2 : decide (ticket < 0) = true := decide_eq_true ht
                have hMF : Hid (mayM ⟨kind, from_, to_, g, node, try_, low, code, ticket, told, ops⟩ = false) := Lib.hid (by unfold mayM; simp only; rw [ht2]; simp)
                go_wp2_with fail
                refine (new_err 6 (by decide) _).mono ?_
                rintro en w8 ⟨T, b, rfl, hE_, hB8_⟩
                have hE := Lib.hid hE_
                have hB8 := Lib.hid (bnext hB2.out hB8_)
                clear hE_ hB8_
                go_wp2_with fail
                refine (in_any _ _ 6 _ hE.out).mono ?_
                rintro en w9 ⟨T2, b2, rfl, hE2, hB9⟩
                have hB10 := Lib.hid (bnext hB8.out hB9)
                clear hE2 hB9
                go_wp2_with fail
                go_ret
                exact .inr ⟨hMF.out, T2, _, rfl, hB10.out⟩
              · have ht2 : decide (ticket < 0) = false := decide_eq_false ht
                by_cases h8 : 8 < told.length
                · have h82 : decide (8 < told.length) = true := decide_eq_true h8
                  have h83 : decide (8 < (told.length : Int)) = true := decide_eq_true (by omega)
                  have hMF : Hid (mayM ⟨kind, from_, to_, g, node, try_, low, code, ticket, told, ops⟩ = false) := Lib.hid (by unfold mayM; simp only; rw [h82]; simp)
                  go_wp2_with fail
                  refine (new_err 6 (by decide) _).mono ?_
                  rintro en w8 ⟨T, b, rfl, hE_, hB8_⟩
                  have hE := Lib.hid hE_
                  have hB8 := Lib.hid (bnext hB2.out hB8_)
                  clear hE_ hB8_
                  go_wp2_with fail
                  refine (in_any _ _ 6 _ hE.out).mono ?_
                  rintro en w9 ⟨T2, b2, rfl, hE2, hB9⟩
                  have hB10 := Lib.hid (bnext hB8.out hB9)
                  clear hE2 hB9
                  go_wp2_with fail
                  go_ret
                  exact .inr ⟨hMF.out, T2, _, rfl, hB10.out⟩
                · have h82 : decide (8 < told.length) = false := decide_eq_false h8
                  have h83 : decide (8 < (told.length : Int)) = false := decide_eq_false (by omega)
                  go_wp2_with fail
                  refine (opsCheckE_any B d ops _ (hR.out.below hB2.out) hl hK.out (hGG.out.below hB2.out)).mono ?_
                  rintro en w3 ⟨rfl, hB3_⟩
                  have hB3 := Lib.hid (bnext hB2.out hB3_)
                  have hb3 := Lib.hid (block_below hB3_ hb2.out)
                  clear hB3_
                  clear x0 x3 x4 x5 x6 x7 x8 x9 x10
                  cases h9 : (checkO ops == 0)
                  · have h9' : (checkO ops != 0) = true := by rw [bne, h9]; rfl
                    have hMF : Hid (mayM ⟨kind, from_, to_, g, node, try_, low, code, ticket, told, ops⟩ = false) := Lib.hid (by unfold mayM; simp only; rw [h9]; simp)
                    go_wp2_with fail
                    refine (new_err 6 (by decide) _).mono ?_
                    rintro en w8 ⟨T, b, rfl, hE_, hB8_⟩
                    have hE := Lib.hid hE_
                    have hB8 := Lib.hid (bnext hB3.out hB8_)
                    clear hE_ hB8_
                    go_wp2_with fail
                    refine (in_any _ _ 6 _ hE.out).mono ?_
                    rintro en w9 ⟨T2, b2, rfl, hE2, hB9⟩
                    have hB10 := Lib.hid (bnext hB8.out hB9)
                    clear hE2 hB9
                    go_wp2_with fail
                    go_ret
                    exact .inr ⟨hMF.out, T2, _, rfl, hB10.out⟩
                  · have h9' : (checkO ops != 0) = false := by rw [bne, h9]; rfl
                    have H9 := Lib.hid h9
                    clear h9
                    obtain ⟨x0, x1, x2, x3, x4, x5, x6, x7, x8, x9, x10⟩ := msg_cells hb3.out
                    go_wp2_with fail
                    refine (bare_any ⟨kind, from_, to_, g, node, try_, low, code, ticket, told, ops⟩ A c B d _).mono ?_
                    rintro en w4 ⟨rfl, hB4_⟩
                    have hB4 := Lib.hid (bnext hB3.out hB4_)
                    clear hB4_ h9' 
                    clear x0 x1 x2 x3 x4 x5 x6 x7 x8 x9 x10
                    have hN : Hid (mayM ⟨kind, from_, to_, g, node, try_, low, code, ticket, told, ops⟩ = nothingM (bareM ⟨kind, from_, to_, g, node, try_, low, code, ticket, told, ops⟩)) := Lib.hid (by unfold mayM; simp only; rw [H1.out, H2.out, H3.out, H4.out, H5.out, H7.out, ht2, h82, H9.out, hk4, hk12.out]; simp)
                    have hL : (bareM ⟨kind, from_, to_, g, node, try_, low, code, ticket, told, ops⟩).told.length ≤ 1000000 ∧ (bareM ⟨kind, from_, to_, g, node, try_, low, code, ticket, told, ops⟩).ops.length ≤ 1000000 := by
                      unfold bareM
                      simp only
                      split
                      · exact ⟨hl2, by simp⟩
                      split
                      · exact ⟨hl2, hl⟩
                      split
                      · exact ⟨hl2, hl⟩
                      split
                      · exact ⟨by simp, hl⟩
                      split
                      · exact ⟨hl2, hl⟩
                      · exact ⟨hl2, hl⟩
                    generalize bareA ⟨kind, from_, to_, g, node, try_, low, code, ticket, told, ops⟩ A = A2
                    generalize bareC ⟨kind, from_, to_, g, node, try_, low, code, ticket, told, ops⟩ c = c2
                    generalize bareP ⟨kind, from_, to_, g, node, try_, low, code, ticket, told, ops⟩ B = B2
                    generalize bareQ ⟨kind, from_, to_, g, node, try_, low, code, ticket, told, ops⟩ d = d2
                    generalize bareM ⟨kind, from_, to_, g, node, try_, low, code, ticket, told, ops⟩ = q at *
                    obtain ⟨qk, qf, qt, qg, qn, qy, ql, qc, qi, qs, qo⟩ := q
                    simp only at hL
                    obtain ⟨hL1, hL2⟩ := hL
                    have hB5 := Lib.hid (below_alloc hB4.out (.cells (msgA ⟨qk, qf, qt, qg, qn, qy, ql, qc, qi, qs, qo⟩ A2 c2 B2 d2) 37))
                    unfold msgA at *
                    simp only at *
                    cases e1 : (qy == 0)
                    · have f1 : (qy != 0) = true := by rw [bne, e1]; rfl
                      have hMF : Hid (mayM ⟨kind, from_, to_, g, node, try_, low, code, ticket, told, ops⟩ = false) := Lib.hid (by rw [hN.out, nothingM]; simp only; rw [e1]; simp)
                      go_wp2_with fail
                      refine (new_err 6 (by decide) _).mono ?_
                      rintro en w8 ⟨T, b, rfl, hE_, hB8_⟩
                      have hE := Lib.hid hE_
                      have hB8 := Lib.hid (bnext hB5.out hB8_)
                      clear hE_ hB8_
                      go_wp2_with fail
                      refine (in_any _ _ 6 _ hE.out).mono ?_
                      rintro en w9 ⟨T2, b2, rfl, hE2, hB9⟩
                      have hB10 := Lib.hid (bnext hB8.out hB9)
                      clear hE2 hB9
                      go_wp2_with fail
                      go_ret
                      exact .inr ⟨hMF.out, T2, _, rfl, hB10.out⟩
                    · obtain rfl : qy = 0 := by simpa using e1
                      clear e1
                      cases e2 : (ql == 0)
                      · have f2 : (ql != 0) = true := by rw [bne, e2]; rfl
                        have hMF : Hid (mayM ⟨kind, from_, to_, g, node, try_, low, code, ticket, told, ops⟩ = false) := Lib.hid (by rw [hN.out, nothingM]; simp only; rw [e2]; simp)
                        go_wp2_with fail
                        refine (new_err 6 (by decide) _).mono ?_
                        rintro en w8 ⟨T, b, rfl, hE_, hB8_⟩
                        have hE := Lib.hid hE_
                        have hB8 := Lib.hid (bnext hB5.out hB8_)
                        clear hE_ hB8_
                        go_wp2_with fail
                        refine (in_any _ _ 6 _ hE.out).mono ?_
                        rintro en w9 ⟨T2, b2, rfl, hE2, hB9⟩
                        have hB10 := Lib.hid (bnext hB8.out hB9)
                        clear hE2 hB9
                        go_wp2_with fail
                        go_ret
                        exact .inr ⟨hMF.out, T2, _, rfl, hB10.out⟩
                      · obtain rfl : ql = 0 := by simpa using e2
                        clear e2
                        cases e3 : (qc == 0)
                        · have f3 : (qc != 0) = true := by rw [bne, e3]; rfl
                          have hMF : Hid (mayM ⟨kind, from_, to_, g, node, try_, low, code, ticket, told, ops⟩ = false) := Lib.hid (by rw [hN.out, nothingM]; simp only; rw [e3]; simp)
                          go_wp2_with fail
                          refine (new_err 6 (by decide) _).mono ?_
                          rintro en w8 ⟨T, b, rfl, hE_, hB8_⟩
                          have hE := Lib.hid hE_
                          have hB8 := Lib.hid (bnext hB5.out hB8_)
                          clear hE_ hB8_
                          go_wp2_with fail
                          refine (in_any _ _ 6 _ hE.out).mono ?_
                          rintro en w9 ⟨T2, b2, rfl, hE2, hB9⟩
                          have hB10 := Lib.hid (bnext hB8.out hB9)
                          clear hE2 hB9
                          go_wp2_with fail
                          go_ret
                          exact .inr ⟨hMF.out, T2, _, rfl, hB10.out⟩
                        · obtain rfl : qc = 0 := by simpa using e3
                          clear e3
                          cases e4 : (qi == 0)
                          · have f4 : (qi != 0) = true := by rw [bne, e4]; rfl
                            have hMF : Hid (mayM ⟨kind, from_, to_, g, node, try_, low, code, ticket, told, ops⟩ = false) := Lib.hid (by rw [hN.out, nothingM]; simp only; rw [e4]; simp)
                            go_wp2_with fail
                            refine (new_err 6 (by decide) _).mono ?_
                            rintro en w8 ⟨T, b, rfl, hE_, hB8_⟩
                            have hE := Lib.hid hE_
                            have hB8 := Lib.hid (bnext hB5.out hB8_)
                            clear hE_ hB8_
                            go_wp2_with fail
                            refine (in_any _ _ 6 _ hE.out).mono ?_
                            rintro en w9 ⟨T2, b2, rfl, hE2, hB9⟩
                            have hB10 := Lib.hid (bnext hB8.out hB9)
                            clear hE2 hB9
                            go_wp2_with fail
                            go_ret
                            exact .inr ⟨hMF.out, T2, _, rfl, hB10.out⟩
                          · obtain rfl : qi = 0 := by simpa using e4
                            clear e4
                            cases e5 : (qs.length + qo.length == 0)
                            · have f5 : 0 < qs.length + qo.length := Nat.pos_of_ne_zero (beq_eq_false_iff_ne.mp e5)
                              have f6 : decide (0 < (qs.length : Int) + (qo.length : Int)) = true := decide_eq_true (by omega)
                              have hMF : Hid (mayM ⟨kind, from_, to_, g, node, try_, low, code, ticket, told, ops⟩ = false) := Lib.hid (by rw [hN.out, nothingM]; simp only; rw [e5]; simp)
                              go_wp2_with fail
                              refine (new_err 6 (by decide) _).mono ?_
                              rintro en w8 ⟨T, b, rfl, hE_, hB8_⟩
                              have hE := Lib.hid hE_
                              have hB8 := Lib.hid (bnext hB5.out hB8_)
                              clear hE_ hB8_
                              go_wp2_with fail
                              refine (in_any _ _ 6 _ hE.out).mono ?_
                              rintro en w9 ⟨T2, b2, rfl, hE2, hB9⟩
                              have hB10 := Lib.hid (bnext hB8.out hB9)
                              clear hE2 hB9
                              go_wp2_with fail
                              go_ret
                              exact .inr ⟨hMF.out, T2, _, rfl, hB10.out⟩
                            · have f5 : ¬ 0 < qs.length + qo.length := by have := beq_iff_eq.mp e5; omega
                              have f6 : decide (0 < (qs.length : Int) + (qo.length : Int)) = false := decide_eq_false (by omega)
                              have hMT : Hid (mayM ⟨kind, from_, to_, g, node, try_, low, code, ticket, told, ops⟩ = true) := Lib.hid (by rw [hN.out, nothingM]; simp only; rw [e5]; rfl)
                              clear e5
                              go_wp2_with fail
                              go_ret
                              exact .inl ⟨hMT.out, rfl, hB5.out⟩
end Go.Proofs.YteeiacfddjhhkaaGreatDoor
namespace Go.Proofs.YteeiacfddjhhkaaGreatDoor
open Go.RowKit
set_option maxRecDepth 100000

set_option maxHeartbeats 4000000 in
theorem check_14 (m : PMsg) (A : Option Addr) (c : Nat) (B : Option Addr) (d : Nat) (w : World) (hr : RowAt w B (opsC m.ops)) (hl : m.ops.length ≤ 1000000) (hl2 : m.told.length ≤ 1000000) (hk : ∀ o ∈ m.ops, o.key.size ≤ 1000000) (hG : GOk w) (hq : (m.kind == 12) = false ∧ (m.kind == 14) = true) :
    Calls Tryz.prog 75 #[.agg (msgA m A c B d)] w (CheckRet m w) := by
  obtain ⟨kind, from_, to_, g, node, try_, low, code, ticket, told, ops⟩ := m
  simp only at hr hl hl2 hk hq
  have hR := Lib.hid hr
  have hK := Lib.hid hk
  have hGG := Lib.hid hG
  clear hr hk hG
  show Calls Tryz.prog 75 #[.agg #[.int .i64 kind, .int .i64 from_, .int .i64 to_, .int .i64 g, .int .i64 node, .int .i64 try_, .int .i64 low, .int .i64 code, .int .i64 ticket, .slice A told.length c, .slice B ops.length d]] w _
  have hb0 := Lib.hid (heap_alloc_new w (.cells #[.int .i64 kind, .int .i64 from_, .int .i64 to_, .int .i64 g, .int .i64 node, .int .i64 try_, .int .i64 low, .int .i64 code, .int .i64 ticket, .slice A told.length c, .slice B ops.length d] 37))
  have hB0 := Lib.hid (below_alloc (Below.refl _ w) (.cells #[.int .i64 kind, .int .i64 from_, .int .i64 to_, .int .i64 g, .int .i64 node, .int .i64 try_, .int .i64 low, .int .i64 code, .int .i64 ticket, .slice A told.length c, .slice B ops.length d] 37))
  go_enter Tryz.func75, Tryz.ntmps75
  go_wp2_with fail
  refine (known_any ⟨kind, from_, to_, g, node, try_, low, code, ticket, told, ops⟩ A c B d _).mono ?_
  rintro en w1 ⟨rfl, hB1_⟩
  have hB1 := Lib.hid (bnext hB0.out hB1_)
  have hb1 := Lib.hid (block_below hB1_ hb0.out)
  clear hB1_
  cases h1 : knownM ⟨kind, from_, to_, g, node, try_, low, code, ticket, told, ops⟩
  · skip
    have hMF : Hid (mayM ⟨kind, from_, to_, g, node, try_, low, code, ticket, told, ops⟩ = false) := Lib.hid (by unfold mayM; rw [h1]; rfl)
    go_wp2_with fail
    refine (new_err 6 (by decide) _).mono ?_
    rintro en w8 ⟨T, b, rfl, hE_, hB8_⟩
    have hE := Lib.hid hE_
    have hB8 := Lib.hid (bnext hB1.out hB8_)
    clear hE_ hB8_
    go_wp2_with fail
    refine (in_any _ _ 6 _ hE.out).mono ?_
    rintro en w9 ⟨T2, b2, rfl, hE2, hB9⟩
    have hB10 := Lib.hid (bnext hB8.out hB9)
    clear hE2 hB9
    go_wp2_with fail
    go_ret
    exact .inr ⟨hMF.out, T2, _, rfl, hB10.out⟩
  · have H1 := Lib.hid h1
    clear h1
    obtain ⟨x0, x1, x2, x3, x4, x5, x6, x7, x8, x9, x10⟩ := msg_cells hb1.out
    go_wp2_with fail
    refine (way_any ⟨kind, from_, to_, g, node, try_, low, code, ticket, told, ops⟩ A c B d _).mono ?_
    rintro en w2 ⟨rfl, hB2_⟩
    have hB2 := Lib.hid (bnext hB1.out hB2_)
    have hb2 := Lib.hid (block_below hB2_ hb1.out)
    clear hB2_
    clear x0 x1 x2 x3 x4 x5 x6 x7 x8 x9 x10
    cases h2 : wayM ⟨kind, from_, to_, g, node, try_, low, code, ticket, told, ops⟩
    · skip
      have hMF : Hid (mayM ⟨kind, from_, to_, g, node, try_, low, code, ticket, told, ops⟩ = false) := Lib.hid (by unfold mayM; rw [h2]; simp)
      go_wp2_with fail
      refine (new_err 6 (by decide) _).mono ?_
      rintro en w8 ⟨T, b, rfl, hE_, hB8_⟩
      have hE := Lib.hid hE_
      have hB8 := Lib.hid (bnext hB2.out hB8_)
      clear hE_ hB8_
      go_wp2_with fail
      refine (in_any _ _ 6 _ hE.out).mono ?_
      rintro en w9 ⟨T2, b2, rfl, hE2, hB9⟩
      have hB10 := Lib.hid (bnext hB8.out hB9)
      clear hE2 hB9
      go_wp2_with fail
      go_ret
      exact .inr ⟨hMF.out, T2, _, rfl, hB10.out⟩
    · have H2 := Lib.hid h2
      clear h2
      have x0 : w2.cell? ⟨w.heap.size, 0, none⟩ = some (.int .i64 kind) := by rw [block_cell hb2.out]; rfl
      have x3 : w2.cell? ⟨w.heap.size, 3, none⟩ = some (.int .i64 g) := by rw [block_cell hb2.out]; rfl
      have x4 : w2.cell? ⟨w.heap.size, 4, none⟩ = some (.int .i64 node) := by rw [block_cell hb2.out]; rfl
      have x5 : w2.cell? ⟨w.heap.size, 5, none⟩ = some (.int .i64 try_) := by rw [block_cell hb2.out]; rfl
      have x6 : w2.cell? ⟨w.heap.size, 6, none⟩ = some (.int .i64 low) := by rw [block_cell hb2.out]; rfl
      have x7 : w2.cell? ⟨w.heap.size, 7, none⟩ = some (.int .i64 code) := by rw [block_cell hb2.out]; rfl
      have x8 : w2.cell? ⟨w.heap.size, 8, none⟩ = some (.int .i64 ticket) := by rw [block_cell hb2.out]; rfl
      have x9 : w2.cell? ⟨w.heap.size, 9, none⟩ = some (.slice A told.length c) := by rw [block_cell hb2.out]; rfl
      have x10 : w2.cell? ⟨w.heap.size, 10, none⟩ = some (.slice B ops.length d) := by rw [block_cell hb2.out]; rfl
      go_wp2_with fail
      refine (within_any _ _ _ _).mono ?_
      rintro en w' ⟨rfl, rfl⟩
      cases h3 : withinB g 1 1048576
      · skip
        have hMF : Hid (mayM ⟨kind, from_, to_, g, node, try_, low, code, ticket, told, ops⟩ = false) := Lib.hid (by unfold mayM; simp only; rw [h3]; simp)
        go_wp2_with fail
        refine (new_err 6 (by decide) _).mono ?_
        rintro en w8 ⟨T, b, rfl, hE_, hB8_⟩
        have hE := Lib.hid hE_
        have hB8 := Lib.hid (bnext hB2.out hB8_)
        clear hE_ hB8_
        go_wp2_with fail
        refine (in_any _ _ 6 _ hE.out).mono ?_
        rintro en w9 ⟨T2, b2, rfl, hE2, hB9⟩
        have hB10 := Lib.hid (bnext hB8.out hB9)
        clear hE2 hB9
        go_wp2_with fail
        go_ret
        exact .inr ⟨hMF.out, T2, _, rfl, hB10.out⟩
      · have H3 := Lib.hid h3
        clear h3
        go_wp2_with fail
        refine (within_any _ _ _ _).mono ?_
        rintro en w' ⟨rfl, rfl⟩
        cases h4 : withinB node 0 255
        · skip
          have hMF : Hid (mayM ⟨kind, from_, to_, g, node, try_, low, code, ticket, told, ops⟩ = false) := Lib.hid (by unfold mayM; simp only; rw [h4]; simp)
          go_wp2_with fail
          refine (new_err 6 (by decide) _).mono ?_
          rintro en w8 ⟨T, b, rfl, hE_, hB8_⟩
          have hE := Lib.hid hE_
          have hB8 := Lib.hid (bnext hB2.out hB8_)
          clear hE_ hB8_
          go_wp2_with fail
          refine (in_any _ _ 6 _ hE.out).mono ?_
          rintro en w9 ⟨T2, b2, rfl, hE2, hB9⟩
          have hB10 := Lib.hid (bnext hB8.out hB9)
          clear hE2 hB9
          go_wp2_with fail
          go_ret
          exact .inr ⟨hMF.out, T2, _, rfl, hB10.out⟩
        · have H4 := Lib.hid h4
          clear h4
          go_wp2_with fail
          refine (within_any _ _ _ _).mono ?_
          rintro en w' ⟨rfl, rfl⟩
          cases h5 : withinB try_ 0 1048576
          · skip
            have hMF : Hid (mayM ⟨kind, from_, to_, g, node, try_, low, code, ticket, told, ops⟩ = false) := Lib.hid (by unfold mayM; simp only; rw [h5]; simp)
            go_wp2_with fail
            refine (new_err 6 (by decide) _).mono ?_
            rintro en w8 ⟨T, b, rfl, hE_, hB8_⟩
            have hE := Lib.hid hE_
            have hB8 := Lib.hid (bnext hB2.out hB8_)
            clear hE_ hB8_
            go_wp2_with fail
            refine (in_any _ _ 6 _ hE.out).mono ?_
            rintro en w9 ⟨T2, b2, rfl, hE2, hB9⟩
            have hB10 := Lib.hid (bnext hB8.out hB9)
            clear hE2 hB9
            go_wp2_with fail
            go_ret
            exact .inr ⟨hMF.out, T2, _, rfl, hB10.out⟩
          · have H5 := Lib.hid h5
            clear h5
            have hk4 : decide (kind ≤ 4) = false := decide_eq_false (by have := hq.2; simp at this; omega)
            have n12 : (kind == 12) = false := hq.1
            have n14 : (kind == 14) = true := hq.2
            have hk12 : Hid ((kind == 12 || kind == 14) = true) := Lib.hid (by rw [n12, n14]; rfl)
            go_wp2_with fail
            refine (within_any _ _ _ _).mono ?_
            rintro en w' ⟨rfl, rfl⟩
            cases h7 : withinB code 1 99
            · skip
              have hMF : Hid (mayM ⟨kind, from_, to_, g, node, try_, low, code, ticket, told, ops⟩ = false) := Lib.hid (by unfold mayM; simp only; rw [h7, hk12.out]; simp)
              go_wp2_with fail
              refine (new_err 6 (by decide) _).mono ?_
              rintro en w8 ⟨T, b, rfl, hE_, hB8_⟩
              have hE := Lib.hid hE_
              have hB8 := Lib.hid (bnext hB2.out hB8_)
              clear hE_ hB8_
              go_wp2_with fail
              refine (in_any _ _ 6 _ hE.out).mono ?_
              rintro en w9 ⟨T2, b2, rfl, hE2, hB9⟩
              have hB10 := Lib.hid (bnext hB8.out hB9)
              clear hE2 hB9
              go_wp2_with fail
              go_ret
              exact .inr ⟨hMF.out, T2, _, rfl, hB10.out⟩
            · have H7 := Lib.hid h7
              clear h7
              by_cases ht : ticket < 0
              · have ht2 : decide (ticket < 0) = true := decide_eq_true ht
                have hMF : Hid (mayM ⟨kind, from_, to_, g, node, try_, low, code, ticket, told, ops⟩ = false) := Lib.hid (by unfold mayM; simp only; rw [ht2]; simp)
                go_wp2_with fail
                refine (new_err 6 (by decide) _).mono ?_
                rintro en w8 ⟨T, b, rfl, hE_, hB8_⟩
                have hE := Lib.hid hE_
                have hB8 := Lib.hid (bnext hB2.out hB8_)
                clear hE_ hB8_
                go_wp2_with fail
                refine (in_any _ _ 6 _ hE.out).mono ?_
                rintro en w9 ⟨T2, b2, rfl, hE2, hB9⟩
                have hB10 := Lib.hid (bnext hB8.out hB9)
                clear hE2 hB9
                go_wp2_with fail
                go_ret
                exact .inr ⟨hMF.out, T2, _, rfl, hB10.out⟩
              · have ht2 : decide (ticket < 0) = false := decide_eq_false ht
                by_cases h8 : 8 < told.length
                · have h82 : decide (8 < told.length) = true := decide_eq_true h8
                  have h83 : decide (8 < (told.length : Int)) = true := decide_eq_true (by omega)
                  have hMF : Hid (mayM ⟨kind, from_, to_, g, node, try_, low, code, ticket, told, ops⟩ = false) := Lib.hid (by unfold mayM; simp only; rw [h82]; simp)
                  go_wp2_with fail
                  refine (new_err 6 (by decide) _).mono ?_
                  rintro en w8 ⟨T, b, rfl, hE_, hB8_⟩
                  have hE := Lib.hid hE_
                  have hB8 := Lib.hid (bnext hB2.out hB8_)
                  clear hE_ hB8_
                  go_wp2_with fail
                  refine (in_any _ _ 6 _ hE.out).mono ?_
                  rintro en w9 ⟨T2, b2, rfl, hE2, hB9⟩
                  have hB10 := Lib.hid (bnext hB8.out hB9)
                  clear hE2 hB9
                  go_wp2_with fail
                  go_ret
                  exact .inr ⟨hMF.out, T2, _, rfl, hB10.out⟩
                · have h82 : decide (8 < told.length) = false := decide_eq_false h8
                  have h83 : decide (8 < (told.length : Int)) = false := decide_eq_false (by omega)
                  go_wp2_with fail
                  refine (opsCheckE_any B d ops _ (hR.out.below hB2.out) hl hK.out (hGG.out.below hB2.out)).mono ?_
                  rintro en w3 ⟨rfl, hB3_⟩
                  have hB3 := Lib.hid (bnext hB2.out hB3_)
                  have hb3 := Lib.hid (block_below hB3_ hb2.out)
                  clear hB3_
                  clear x0 x3 x4 x5 x6 x7 x8 x9 x10
                  cases h9 : (checkO ops == 0)
                  · have h9' : (checkO ops != 0) = true := by rw [bne, h9]; rfl
                    have hMF : Hid (mayM ⟨kind, from_, to_, g, node, try_, low, code, ticket, told, ops⟩ = false) := Lib.hid (by unfold mayM; simp only; rw [h9]; simp)
                    go_wp2_with fail
                    refine (new_err 6 (by decide) _).mono ?_
                    rintro en w8 ⟨T, b, rfl, hE_, hB8_⟩
                    have hE := Lib.hid hE_
                    have hB8 := Lib.hid (bnext hB3.out hB8_)
                    clear hE_ hB8_
                    go_wp2_with fail
                    refine (in_any _ _ 6 _ hE.out).mono ?_
                    rintro en w9 ⟨T2, b2, rfl, hE2, hB9⟩
                    have hB10 := Lib.hid (bnext hB8.out hB9)
                    clear hE2 hB9
                    go_wp2_with fail
                    go_ret
                    exact .inr ⟨hMF.out, T2, _, rfl, hB10.out⟩
                  · have h9' : (checkO ops != 0) = false := by rw [bne, h9]; rfl
                    have H9 := Lib.hid h9
                    clear h9
                    obtain ⟨x0, x1, x2, x3, x4, x5, x6, x7, x8, x9, x10⟩ := msg_cells hb3.out
                    go_wp2_with fail
                    refine (bare_any ⟨kind, from_, to_, g, node, try_, low, code, ticket, told, ops⟩ A c B d _).mono ?_
                    rintro en w4 ⟨rfl, hB4_⟩
                    have hB4 := Lib.hid (bnext hB3.out hB4_)
                    clear hB4_ h9' 
                    clear x0 x1 x2 x3 x4 x5 x6 x7 x8 x9 x10
                    have hN : Hid (mayM ⟨kind, from_, to_, g, node, try_, low, code, ticket, told, ops⟩ = nothingM (bareM ⟨kind, from_, to_, g, node, try_, low, code, ticket, told, ops⟩)) := Lib.hid (by unfold mayM; simp only; rw [H1.out, H2.out, H3.out, H4.out, H5.out, H7.out, ht2, h82, H9.out, hk4, hk12.out]; simp)
                    have hL : (bareM ⟨kind, from_, to_, g, node, try_, low, code, ticket, told, ops⟩).told.length ≤ 1000000 ∧ (bareM ⟨kind, from_, to_, g, node, try_, low, code, ticket, told, ops⟩).ops.length ≤ 1000000 := by
                      unfold bareM
                      simp only
                      split
                      · exact ⟨hl2, by simp⟩
                      split
                      · exact ⟨hl2, hl⟩
                      split
                      · exact ⟨hl2, hl⟩
                      split
                      · exact ⟨by simp, hl⟩
                      split
                      · exact ⟨hl2, hl⟩
                      · exact ⟨hl2, hl⟩
                    generalize bareA ⟨kind, from_, to_, g, node, try_, low, code, ticket, told, ops⟩ A = A2
                    generalize bareC ⟨kind, from_, to_, g, node, try_, low, code, ticket, told, ops⟩ c = c2
                    generalize bareP ⟨kind, from_, to_, g, node, try_, low, code, ticket, told, ops⟩ B = B2
                    generalize bareQ ⟨kind, from_, to_, g, node, try_, low, code, ticket, told, ops⟩ d = d2
                    generalize bareM ⟨kind, from_, to_, g, node, try_, low, code, ticket, told, ops⟩ = q at *
                    obtain ⟨qk, qf, qt, qg, qn, qy, ql, qc, qi, qs, qo⟩ := q
                    simp only at hL
                    obtain ⟨hL1, hL2⟩ := hL
                    have hB5 := Lib.hid (below_alloc hB4.out (.cells (msgA ⟨qk, qf, qt, qg, qn, qy, ql, qc, qi, qs, qo⟩ A2 c2 B2 d2) 37))
                    unfold msgA at *
                    simp only at *
                    cases e1 : (qy == 0)
                    · have f1 : (qy != 0) = true := by rw [bne, e1]; rfl
                      have hMF : Hid (mayM ⟨kind, from_, to_, g, node, try_, low, code, ticket, told, ops⟩ = false) := Lib.hid (by rw [hN.out, nothingM]; simp only; rw [e1]; simp)
                      go_wp2_with fail
                      refine (new_err 6 (by decide) _).mono ?_
                      rintro en w8 ⟨T, b, rfl, hE_, hB8_⟩
                      have hE := Lib.hid hE_
                      have hB8 := Lib.hid (bnext hB5.out hB8_)
                      clear hE_ hB8_
                      go_wp2_with fail
                      refine (in_any _ _ 6 _ hE.out).mono ?_
                      rintro en w9 ⟨T2, b2, rfl, hE2, hB9⟩
                      have hB10 := Lib.hid (bnext hB8.out hB9)
                      clear hE2 hB9
                      go_wp2_with fail
                      go_ret
                      exact .inr ⟨hMF.out, T2, _, rfl, hB10.out⟩
                    · obtain rfl : qy = 0 := by simpa using e1
                      clear e1
                      cases e2 : (ql == 0)
                      · have f2 : (ql != 0) = true := by rw [bne, e2]; rfl
                        have hMF : Hid (mayM ⟨kind, from_, to_, g, node, try_, low, code, ticket, told, ops⟩ = false) := Lib.hid (by rw [hN.out, nothingM]; simp only; rw [e2]; simp)
                        go_wp2_with fail
                        refine (new_err 6 (by decide) _).mono ?_
                        rintro en w8 ⟨T, b, rfl, hE_, hB8_⟩
                        have hE := Lib.hid hE_
                        have hB8 := Lib.hid (bnext hB5.out hB8_)
                        clear hE_ hB8_
                        go_wp2_with fail
                        refine (in_any _ _ 6 _ hE.out).mono ?_
                        rintro en w9 ⟨T2, b2, rfl, hE2, hB9⟩
                        have hB10 := Lib.hid (bnext hB8.out hB9)
                        clear hE2 hB9
                        go_wp2_with fail
                        go_ret
                        exact .inr ⟨hMF.out, T2, _, rfl, hB10.out⟩
                      · obtain rfl : ql = 0 := by simpa using e2
                        clear e2
                        cases e3 : (qc == 0)
                        · have f3 : (qc != 0) = true := by rw [bne, e3]; rfl
                          have hMF : Hid (mayM ⟨kind, from_, to_, g, node, try_, low, code, ticket, told, ops⟩ = false) := Lib.hid (by rw [hN.out, nothingM]; simp only; rw [e3]; simp)
                          go_wp2_with fail
                          refine (new_err 6 (by decide) _).mono ?_
                          rintro en w8 ⟨T, b, rfl, hE_, hB8_⟩
                          have hE := Lib.hid hE_
                          have hB8 := Lib.hid (bnext hB5.out hB8_)
                          clear hE_ hB8_
                          go_wp2_with fail
                          refine (in_any _ _ 6 _ hE.out).mono ?_
                          rintro en w9 ⟨T2, b2, rfl, hE2, hB9⟩
                          have hB10 := Lib.hid (bnext hB8.out hB9)
                          clear hE2 hB9
                          go_wp2_with fail
                          go_ret
                          exact .inr ⟨hMF.out, T2, _, rfl, hB10.out⟩
                        · obtain rfl : qc = 0 := by simpa using e3
                          clear e3
                          cases e4 : (qi == 0)
                          · have f4 : (qi != 0) = true := by rw [bne, e4]; rfl
                            have hMF : Hid (mayM ⟨kind, from_, to_, g, node, try_, low, code, ticket, told, ops⟩ = false) := Lib.hid (by rw [hN.out, nothingM]; simp only; rw [e4]; simp)
                            go_wp2_with fail
                            refine (new_err 6 (by decide) _).mono ?_
                            rintro en w8 ⟨T, b, rfl, hE_, hB8_⟩
                            have hE := Lib.hid hE_
                            have hB8 := Lib.hid (bnext hB5.out hB8_)
                            clear hE_ hB8_
                            go_wp2_with fail
                            refine (in_any _ _ 6 _ hE.out).mono ?_
                            rintro en w9 ⟨T2, b2, rfl, hE2, hB9⟩
                            have hB10 := Lib.hid (bnext hB8.out hB9)
                            clear hE2 hB9
                            go_wp2_with fail
                            go_ret
                            exact .inr ⟨hMF.out, T2, _, rfl, hB10.out⟩
                          · obtain rfl : qi = 0 := by simpa using e4
                            clear e4
                            cases e5 : (qs.length + qo.length == 0)
                            · have f5 : 0 < qs.length + qo.length := Nat.pos_of_ne_zero (beq_eq_false_iff_ne.mp e5)
                              have f6 : decide (0 < (qs.length : Int) + (qo.length : Int)) = true := decide_eq_true (by omega)
                              have hMF : Hid (mayM ⟨kind, from_, to_, g, node, try_, low, code, ticket, told, ops⟩ = false) := Lib.hid (by rw [hN.out, nothingM]; simp only; rw [e5]; simp)
                              go_wp2_with fail
                              refine (new_err 6 (by decide) _).mono ?_
                              rintro en w8 ⟨T, b, rfl, hE_, hB8_⟩
                              have hE := Lib.hid hE_
                              have hB8 := Lib.hid (bnext hB5.out hB8_)
                              clear hE_ hB8_
                              go_wp2_with fail
                              refine (in_any _ _ 6 _ hE.out).mono ?_
                              rintro en w9 ⟨T2, b2, rfl, hE2, hB9⟩
                              have hB10 := Lib.hid (bnext hB8.out hB9)
                              clear hE2 hB9
                              go_wp2_with fail
                              go_ret
                              exact .inr ⟨hMF.out, T2, _, rfl, hB10.out⟩
                            · have f5 : ¬ 0 < qs.length + qo.length := by have := beq_iff_eq.mp e5; omega
                              have f6 : decide (0 < (qs.length : Int) + (qo.length : Int)) = false := decide_eq_false (by omega)
                              have hMT : Hid (mayM ⟨kind, from_, to_, g, node, try_, low, code, ticket, told, ops⟩ = true) := Lib.hid (by rw [hN.out, nothingM]; simp only; rw [e5]; rfl)
                              clear e5
                              go_wp2_with fail
                              go_ret
                              exact .inl ⟨hMT.out, rfl, hB5.out⟩
end Go.Proofs.YteeiacfddjhhkaaGreatDoor
namespace Go.Proofs.YteeiacfddjhhkaaGreatDoor
open Go.RowKit
set_option maxRecDepth 100000

set_option maxHeartbeats 4000000 in
theorem check_o (m : PMsg) (A : Option Addr) (c : Nat) (B : Option Addr) (d : Nat) (w : World) (hr : RowAt w B (opsC m.ops)) (hl : m.ops.length ≤ 1000000) (hl2 : m.told.length ≤ 1000000) (hk : ∀ o ∈ m.ops, o.key.size ≤ 1000000) (hG : GOk w) (hq : ¬ m.kind ≤ 4 ∧ (m.kind == 12) = false ∧ (m.kind == 14) = false) :
    Calls Tryz.prog 75 #[.agg (msgA m A c B d)] w (CheckRet m w) := by
  obtain ⟨kind, from_, to_, g, node, try_, low, code, ticket, told, ops⟩ := m
  simp only at hr hl hl2 hk hq
  have hR := Lib.hid hr
  have hK := Lib.hid hk
  have hGG := Lib.hid hG
  clear hr hk hG
  show Calls Tryz.prog 75 #[.agg #[.int .i64 kind, .int .i64 from_, .int .i64 to_, .int .i64 g, .int .i64 node, .int .i64 try_, .int .i64 low, .int .i64 code, .int .i64 ticket, .slice A told.length c, .slice B ops.length d]] w _
  have hb0 := Lib.hid (heap_alloc_new w (.cells #[.int .i64 kind, .int .i64 from_, .int .i64 to_, .int .i64 g, .int .i64 node, .int .i64 try_, .int .i64 low, .int .i64 code, .int .i64 ticket, .slice A told.length c, .slice B ops.length d] 37))
  have hB0 := Lib.hid (below_alloc (Below.refl _ w) (.cells #[.int .i64 kind, .int .i64 from_, .int .i64 to_, .int .i64 g, .int .i64 node, .int .i64 try_, .int .i64 low, .int .i64 code, .int .i64 ticket, .slice A told.length c, .slice B ops.length d] 37))
  go_enter Tryz.func75, Tryz.ntmps75
  go_wp2_with fail
  refine (known_any ⟨kind, from_, to_, g, node, try_, low, code, ticket, told, ops⟩ A c B d _).mono ?_
  rintro en w1 ⟨rfl, hB1_⟩
  have hB1 := Lib.hid (bnext hB0.out hB1_)
  have hb1 := Lib.hid (block_below hB1_ hb0.out)
  clear hB1_
  cases h1 : knownM ⟨kind, from_, to_, g, node, try_, low, code, ticket, told, ops⟩
  · skip
    have hMF : Hid (mayM ⟨kind, from_, to_, g, node, try_, low, code, ticket, told, ops⟩ = false) := Lib.hid (by unfold mayM; rw [h1]; rfl)
    go_wp2_with fail
    refine (new_err 6 (by decide) _).mono ?_
    rintro en w8 ⟨T, b, rfl, hE_, hB8_⟩
    have hE := Lib.hid hE_
    have hB8 := Lib.hid (bnext hB1.out hB8_)
    clear hE_ hB8_
    go_wp2_with fail
    refine (in_any _ _ 6 _ hE.out).mono ?_
    rintro en w9 ⟨T2, b2, rfl, hE2, hB9⟩
    have hB10 := Lib.hid (bnext hB8.out hB9)
    clear hE2 hB9
    go_wp2_with fail
    go_ret
    exact .inr ⟨hMF.out, T2, _, rfl, hB10.out⟩
  · have H1 := Lib.hid h1
    clear h1
    obtain ⟨x0, x1, x2, x3, x4, x5, x6, x7, x8, x9, x10⟩ := msg_cells hb1.out
    go_wp2_with fail
    refine (way_any ⟨kind, from_, to_, g, node, try_, low, code, ticket, told, ops⟩ A c B d _).mono ?_
    rintro en w2 ⟨rfl, hB2_⟩
    have hB2 := Lib.hid (bnext hB1.out hB2_)
    have hb2 := Lib.hid (block_below hB2_ hb1.out)
    clear hB2_
    clear x0 x1 x2 x3 x4 x5 x6 x7 x8 x9 x10
    cases h2 : wayM ⟨kind, from_, to_, g, node, try_, low, code, ticket, told, ops⟩
    · skip
      have hMF : Hid (mayM ⟨kind, from_, to_, g, node, try_, low, code, ticket, told, ops⟩ = false) := Lib.hid (by unfold mayM; rw [h2]; simp)
      go_wp2_with fail
      refine (new_err 6 (by decide) _).mono ?_
      rintro en w8 ⟨T, b, rfl, hE_, hB8_⟩
      have hE := Lib.hid hE_
      have hB8 := Lib.hid (bnext hB2.out hB8_)
      clear hE_ hB8_
      go_wp2_with fail
      refine (in_any _ _ 6 _ hE.out).mono ?_
      rintro en w9 ⟨T2, b2, rfl, hE2, hB9⟩
      have hB10 := Lib.hid (bnext hB8.out hB9)
      clear hE2 hB9
      go_wp2_with fail
      go_ret
      exact .inr ⟨hMF.out, T2, _, rfl, hB10.out⟩
    · have H2 := Lib.hid h2
      clear h2
      have x0 : w2.cell? ⟨w.heap.size, 0, none⟩ = some (.int .i64 kind) := by rw [block_cell hb2.out]; rfl
      have x3 : w2.cell? ⟨w.heap.size, 3, none⟩ = some (.int .i64 g) := by rw [block_cell hb2.out]; rfl
      have x4 : w2.cell? ⟨w.heap.size, 4, none⟩ = some (.int .i64 node) := by rw [block_cell hb2.out]; rfl
      have x5 : w2.cell? ⟨w.heap.size, 5, none⟩ = some (.int .i64 try_) := by rw [block_cell hb2.out]; rfl
      have x6 : w2.cell? ⟨w.heap.size, 6, none⟩ = some (.int .i64 low) := by rw [block_cell hb2.out]; rfl
      have x7 : w2.cell? ⟨w.heap.size, 7, none⟩ = some (.int .i64 code) := by rw [block_cell hb2.out]; rfl
      have x8 : w2.cell? ⟨w.heap.size, 8, none⟩ = some (.int .i64 ticket) := by rw [block_cell hb2.out]; rfl
      have x9 : w2.cell? ⟨w.heap.size, 9, none⟩ = some (.slice A told.length c) := by rw [block_cell hb2.out]; rfl
      have x10 : w2.cell? ⟨w.heap.size, 10, none⟩ = some (.slice B ops.length d) := by rw [block_cell hb2.out]; rfl
      go_wp2_with fail
      refine (within_any _ _ _ _).mono ?_
      rintro en w' ⟨rfl, rfl⟩
      cases h3 : withinB g 1 1048576
      · skip
        have hMF : Hid (mayM ⟨kind, from_, to_, g, node, try_, low, code, ticket, told, ops⟩ = false) := Lib.hid (by unfold mayM; simp only; rw [h3]; simp)
        go_wp2_with fail
        refine (new_err 6 (by decide) _).mono ?_
        rintro en w8 ⟨T, b, rfl, hE_, hB8_⟩
        have hE := Lib.hid hE_
        have hB8 := Lib.hid (bnext hB2.out hB8_)
        clear hE_ hB8_
        go_wp2_with fail
        refine (in_any _ _ 6 _ hE.out).mono ?_
        rintro en w9 ⟨T2, b2, rfl, hE2, hB9⟩
        have hB10 := Lib.hid (bnext hB8.out hB9)
        clear hE2 hB9
        go_wp2_with fail
        go_ret
        exact .inr ⟨hMF.out, T2, _, rfl, hB10.out⟩
      · have H3 := Lib.hid h3
        clear h3
        go_wp2_with fail
        refine (within_any _ _ _ _).mono ?_
        rintro en w' ⟨rfl, rfl⟩
        cases h4 : withinB node 0 255
        · skip
          have hMF : Hid (mayM ⟨kind, from_, to_, g, node, try_, low, code, ticket, told, ops⟩ = false) := Lib.hid (by unfold mayM; simp only; rw [h4]; simp)
          go_wp2_with fail
          refine (new_err 6 (by decide) _).mono ?_
          rintro en w8 ⟨T, b, rfl, hE_, hB8_⟩
          have hE := Lib.hid hE_
          have hB8 := Lib.hid (bnext hB2.out hB8_)
          clear hE_ hB8_
          go_wp2_with fail
          refine (in_any _ _ 6 _ hE.out).mono ?_
          rintro en w9 ⟨T2, b2, rfl, hE2, hB9⟩
          have hB10 := Lib.hid (bnext hB8.out hB9)
          clear hE2 hB9
          go_wp2_with fail
          go_ret
          exact .inr ⟨hMF.out, T2, _, rfl, hB10.out⟩
        · have H4 := Lib.hid h4
          clear h4
          go_wp2_with fail
          refine (within_any _ _ _ _).mono ?_
          rintro en w' ⟨rfl, rfl⟩
          cases h5 : withinB try_ 0 1048576
          · skip
            have hMF : Hid (mayM ⟨kind, from_, to_, g, node, try_, low, code, ticket, told, ops⟩ = false) := Lib.hid (by unfold mayM; simp only; rw [h5]; simp)
            go_wp2_with fail
            refine (new_err 6 (by decide) _).mono ?_
            rintro en w8 ⟨T, b, rfl, hE_, hB8_⟩
            have hE := Lib.hid hE_
            have hB8 := Lib.hid (bnext hB2.out hB8_)
            clear hE_ hB8_
            go_wp2_with fail
            refine (in_any _ _ 6 _ hE.out).mono ?_
            rintro en w9 ⟨T2, b2, rfl, hE2, hB9⟩
            have hB10 := Lib.hid (bnext hB8.out hB9)
            clear hE2 hB9
            go_wp2_with fail
            go_ret
            exact .inr ⟨hMF.out, T2, _, rfl, hB10.out⟩
          · have H5 := Lib.hid h5
            clear h5
            have hk4 : decide (kind ≤ 4) = false := decide_eq_false (by have := hq.1; omega)
            have n12 : (kind == 12) = false := hq.2.1
            have n14 : (kind == 14) = false := hq.2.2
            have hk12 : Hid ((kind == 12 || kind == 14) = false) := Lib.hid (by rw [n12, n14]; rfl)
            by_cases ht : ticket < 0
            · have ht2 : decide (ticket < 0) = true := decide_eq_true ht
              have hMF : Hid (mayM ⟨kind, from_, to_, g, node, try_, low, code, ticket, told, ops⟩ = false) := Lib.hid (by unfold mayM; simp only; rw [ht2]; simp)
              go_wp2_with fail
              refine (new_err 6 (by decide) _).mono ?_
              rintro en w8 ⟨T, b, rfl, hE_, hB8_⟩
              have hE := Lib.hid hE_
              have hB8 := Lib.hid (bnext hB2.out hB8_)
              clear hE_ hB8_
              go_wp2_with fail
              refine (in_any _ _ 6 _ hE.out).mono ?_
              rintro en w9 ⟨T2, b2, rfl, hE2, hB9⟩
              have hB10 := Lib.hid (bnext hB8.out hB9)
              clear hE2 hB9
              go_wp2_with fail
              go_ret
              exact .inr ⟨hMF.out, T2, _, rfl, hB10.out⟩
            · have ht2 : decide (ticket < 0) = false := decide_eq_false ht
              by_cases h8 : 8 < told.length
              · have h82 : decide (8 < told.length) = true := decide_eq_true h8
                have h83 : decide (8 < (told.length : Int)) = true := decide_eq_true (by omega)
                have hMF : Hid (mayM ⟨kind, from_, to_, g, node, try_, low, code, ticket, told, ops⟩ = false) := Lib.hid (by unfold mayM; simp only; rw [h82]; simp)
                go_wp2_with fail
                refine (new_err 6 (by decide) _).mono ?_
                rintro en w8 ⟨T, b, rfl, hE_, hB8_⟩
                have hE := Lib.hid hE_
                have hB8 := Lib.hid (bnext hB2.out hB8_)
                clear hE_ hB8_
                go_wp2_with fail
                refine (in_any _ _ 6 _ hE.out).mono ?_
                rintro en w9 ⟨T2, b2, rfl, hE2, hB9⟩
                have hB10 := Lib.hid (bnext hB8.out hB9)
                clear hE2 hB9
                go_wp2_with fail
                go_ret
                exact .inr ⟨hMF.out, T2, _, rfl, hB10.out⟩
              · have h82 : decide (8 < told.length) = false := decide_eq_false h8
                have h83 : decide (8 < (told.length : Int)) = false := decide_eq_false (by omega)
                go_wp2_with fail
                refine (opsCheckE_any B d ops _ (hR.out.below hB2.out) hl hK.out (hGG.out.below hB2.out)).mono ?_
                rintro en w3 ⟨rfl, hB3_⟩
                have hB3 := Lib.hid (bnext hB2.out hB3_)
                have hb3 := Lib.hid (block_below hB3_ hb2.out)
                clear hB3_
                clear x0 x3 x4 x5 x6 x7 x8 x9 x10
                cases h9 : (checkO ops == 0)
                · have h9' : (checkO ops != 0) = true := by rw [bne, h9]; rfl
                  have hMF : Hid (mayM ⟨kind, from_, to_, g, node, try_, low, code, ticket, told, ops⟩ = false) := Lib.hid (by unfold mayM; simp only; rw [h9]; simp)
                  go_wp2_with fail
                  refine (new_err 6 (by decide) _).mono ?_
                  rintro en w8 ⟨T, b, rfl, hE_, hB8_⟩
                  have hE := Lib.hid hE_
                  have hB8 := Lib.hid (bnext hB3.out hB8_)
                  clear hE_ hB8_
                  go_wp2_with fail
                  refine (in_any _ _ 6 _ hE.out).mono ?_
                  rintro en w9 ⟨T2, b2, rfl, hE2, hB9⟩
                  have hB10 := Lib.hid (bnext hB8.out hB9)
                  clear hE2 hB9
                  go_wp2_with fail
                  go_ret
                  exact .inr ⟨hMF.out, T2, _, rfl, hB10.out⟩
                · have h9' : (checkO ops != 0) = false := by rw [bne, h9]; rfl
                  have H9 := Lib.hid h9
                  clear h9
                  obtain ⟨x0, x1, x2, x3, x4, x5, x6, x7, x8, x9, x10⟩ := msg_cells hb3.out
                  go_wp2_with fail
                  refine (bare_any ⟨kind, from_, to_, g, node, try_, low, code, ticket, told, ops⟩ A c B d _).mono ?_
                  rintro en w4 ⟨rfl, hB4_⟩
                  have hB4 := Lib.hid (bnext hB3.out hB4_)
                  clear hB4_ h9' 
                  clear x0 x1 x2 x3 x4 x5 x6 x7 x8 x9 x10
                  have hN : Hid (mayM ⟨kind, from_, to_, g, node, try_, low, code, ticket, told, ops⟩ = nothingM (bareM ⟨kind, from_, to_, g, node, try_, low, code, ticket, told, ops⟩)) := Lib.hid (by unfold mayM; simp only; rw [H1.out, H2.out, H3.out, H4.out, H5.out, ht2, h82, H9.out, hk4, hk12.out]; simp)
                  have hL : (bareM ⟨kind, from_, to_, g, node, try_, low, code, ticket, told, ops⟩).told.length ≤ 1000000 ∧ (bareM ⟨kind, from_, to_, g, node, try_, low, code, ticket, told, ops⟩).ops.length ≤ 1000000 := by
                    unfold bareM
                    simp only
                    split
                    · exact ⟨hl2, by simp⟩
                    split
                    · exact ⟨hl2, hl⟩
                    split
                    · exact ⟨hl2, hl⟩
                    split
                    · exact ⟨by simp, hl⟩
                    split
                    · exact ⟨hl2, hl⟩
                    · exact ⟨hl2, hl⟩
                  generalize bareA ⟨kind, from_, to_, g, node, try_, low, code, ticket, told, ops⟩ A = A2
                  generalize bareC ⟨kind, from_, to_, g, node, try_, low, code, ticket, told, ops⟩ c = c2
                  generalize bareP ⟨kind, from_, to_, g, node, try_, low, code, ticket, told, ops⟩ B = B2
                  generalize bareQ ⟨kind, from_, to_, g, node, try_, low, code, ticket, told, ops⟩ d = d2
                  generalize bareM ⟨kind, from_, to_, g, node, try_, low, code, ticket, told, ops⟩ = q at *
                  obtain ⟨qk, qf, qt, qg, qn, qy, ql, qc, qi, qs, qo⟩ := q
                  simp only at hL
                  obtain ⟨hL1, hL2⟩ := hL
                  have hB5 := Lib.hid (below_alloc hB4.out (.cells (msgA ⟨qk, qf, qt, qg, qn, qy, ql, qc, qi, qs, qo⟩ A2 c2 B2 d2) 37))
                  unfold msgA at *
                  simp only at *
                  cases e1 : (qy == 0)
                  · have f1 : (qy != 0) = true := by rw [bne, e1]; rfl
                    have hMF : Hid (mayM ⟨kind, from_, to_, g, node, try_, low, code, ticket, told, ops⟩ = false) := Lib.hid (by rw [hN.out, nothingM]; simp only; rw [e1]; simp)
                    go_wp2_with fail
                    refine (new_err 6 (by decide) _).mono ?_
                    rintro en w8 ⟨T, b, rfl, hE_, hB8_⟩
                    have hE := Lib.hid hE_
                    have hB8 := Lib.hid (bnext hB5.out hB8_)
                    clear hE_ hB8_
                    go_wp2_with fail
                    refine (in_any _ _ 6 _ hE.out).mono ?_
                    rintro en w9 ⟨T2, b2, rfl, hE2, hB9⟩
                    have hB10 := Lib.hid (bnext hB8.out hB9)
                    clear hE2 hB9
                    go_wp2_with fail
                    go_ret
                    exact .inr ⟨hMF.out, T2, _, rfl, hB10.out⟩
                  · obtain rfl : qy = 0 := by simpa using e1
                    clear e1
                    cases e2 : (ql == 0)
                    · have f2 : (ql != 0) = true := by rw [bne, e2]; rfl
                      have hMF : Hid (mayM ⟨kind, from_, to_, g, node, try_, low, code, ticket, told, ops⟩ = false) := Lib.hid (by rw [hN.out, nothingM]; simp only; rw [e2]; simp)
                      go_wp2_with fail
                      refine (new_err 6 (by decide) _).mono ?_
                      rintro en w8 ⟨T, b, rfl, hE_, hB8_⟩
                      have hE := Lib.hid hE_
                      have hB8 := Lib.hid (bnext hB5.out hB8_)
                      clear hE_ hB8_
                      go_wp2_with fail
                      refine (in_any _ _ 6 _ hE.out).mono ?_
                      rintro en w9 ⟨T2, b2, rfl, hE2, hB9⟩
                      have hB10 := Lib.hid (bnext hB8.out hB9)
                      clear hE2 hB9
                      go_wp2_with fail
                      go_ret
                      exact .inr ⟨hMF.out, T2, _, rfl, hB10.out⟩
                    · obtain rfl : ql = 0 := by simpa using e2
                      clear e2
                      cases e3 : (qc == 0)
                      · have f3 : (qc != 0) = true := by rw [bne, e3]; rfl
                        have hMF : Hid (mayM ⟨kind, from_, to_, g, node, try_, low, code, ticket, told, ops⟩ = false) := Lib.hid (by rw [hN.out, nothingM]; simp only; rw [e3]; simp)
                        go_wp2_with fail
                        refine (new_err 6 (by decide) _).mono ?_
                        rintro en w8 ⟨T, b, rfl, hE_, hB8_⟩
                        have hE := Lib.hid hE_
                        have hB8 := Lib.hid (bnext hB5.out hB8_)
                        clear hE_ hB8_
                        go_wp2_with fail
                        refine (in_any _ _ 6 _ hE.out).mono ?_
                        rintro en w9 ⟨T2, b2, rfl, hE2, hB9⟩
                        have hB10 := Lib.hid (bnext hB8.out hB9)
                        clear hE2 hB9
                        go_wp2_with fail
                        go_ret
                        exact .inr ⟨hMF.out, T2, _, rfl, hB10.out⟩
                      · obtain rfl : qc = 0 := by simpa using e3
                        clear e3
                        cases e4 : (qi == 0)
                        · have f4 : (qi != 0) = true := by rw [bne, e4]; rfl
                          have hMF : Hid (mayM ⟨kind, from_, to_, g, node, try_, low, code, ticket, told, ops⟩ = false) := Lib.hid (by rw [hN.out, nothingM]; simp only; rw [e4]; simp)
                          go_wp2_with fail
                          refine (new_err 6 (by decide) _).mono ?_
                          rintro en w8 ⟨T, b, rfl, hE_, hB8_⟩
                          have hE := Lib.hid hE_
                          have hB8 := Lib.hid (bnext hB5.out hB8_)
                          clear hE_ hB8_
                          go_wp2_with fail
                          refine (in_any _ _ 6 _ hE.out).mono ?_
                          rintro en w9 ⟨T2, b2, rfl, hE2, hB9⟩
                          have hB10 := Lib.hid (bnext hB8.out hB9)
                          clear hE2 hB9
                          go_wp2_with fail
                          go_ret
                          exact .inr ⟨hMF.out, T2, _, rfl, hB10.out⟩
                        · obtain rfl : qi = 0 := by simpa using e4
                          clear e4
                          cases e5 : (qs.length + qo.length == 0)
                          · have f5 : 0 < qs.length + qo.length := Nat.pos_of_ne_zero (beq_eq_false_iff_ne.mp e5)
                            have f6 : decide (0 < (qs.length : Int) + (qo.length : Int)) = true := decide_eq_true (by omega)
                            have hMF : Hid (mayM ⟨kind, from_, to_, g, node, try_, low, code, ticket, told, ops⟩ = false) := Lib.hid (by rw [hN.out, nothingM]; simp only; rw [e5]; simp)
                            go_wp2_with fail
                            refine (new_err 6 (by decide) _).mono ?_
                            rintro en w8 ⟨T, b, rfl, hE_, hB8_⟩
                            have hE := Lib.hid hE_
                            have hB8 := Lib.hid (bnext hB5.out hB8_)
                            clear hE_ hB8_
                            go_wp2_with fail
                            refine (in_any _ _ 6 _ hE.out).mono ?_
                            rintro en w9 ⟨T2, b2, rfl, hE2, hB9⟩
                            have hB10 := Lib.hid (bnext hB8.out hB9)
                            clear hE2 hB9
                            go_wp2_with fail
                            go_ret
                            exact .inr ⟨hMF.out, T2, _, rfl, hB10.out⟩
                          · have f5 : ¬ 0 < qs.length + qo.length := by have := beq_iff_eq.mp e5; omega
                            have f6 : decide (0 < (qs.length : Int) + (qo.length : Int)) = false := decide_eq_false (by omega)
                            have hMT : Hid (mayM ⟨kind, from_, to_, g, node, try_, low, code, ticket, told, ops⟩ = true) := Lib.hid (by rw [hN.out, nothingM]; simp only; rw [e5]; rfl)
                            clear e5
                            go_wp2_with fail
                            go_ret
                            exact .inl ⟨hMT.out, rfl, hB5.out⟩
end Go.Proofs.YteeiacfddjhhkaaGreatDoor
namespace Go.Proofs.YteeiacfddjhhkaaGreatDoor
open Go.RowKit
set_option maxRecDepth 100000

theorem check_any (m : PMsg) (A : Option Addr) (c : Nat) (B : Option Addr) (d : Nat) (w : World) (hr : RowAt w B (opsC m.ops)) (hl : m.ops.length ≤ 1000000) (hl2 : m.told.length ≤ 1000000) (hk : ∀ o ∈ m.ops, o.key.size ≤ 1000000) (hG : GOk w) :
    Calls Tryz.prog 75 #[.agg (msgA m A c B d)] w (CheckRet m w) := by
  by_cases h4 : m.kind ≤ 4
  · exact check_4 m A c B d w hr hl hl2 hk hG h4
  cases h12 : (m.kind == 12)
  · cases h14 : (m.kind == 14)
    · exact check_o m A c B d w hr hl hl2 hk hG ⟨h4, h12, h14⟩
    · exact check_14 m A c B d w hr hl hl2 hk hG ⟨h12, h14⟩
  · exact check_12 m A c B d w hr hl hl2 hk hG h12
theorem may_any (m : PMsg) (A : Option Addr) (c : Nat) (B : Option Addr) (d : Nat) (w : World) (hr : RowAt w B (opsC m.ops)) (hl : m.ops.length ≤ 1000000) (hl2 : m.told.length ≤ 1000000) (hk : ∀ o ∈ m.ops, o.key.size ≤ 1000000) (hG : GOk w) :
    Calls Tryz.prog 44 #[.agg (msgA m A c B d)] w fun e w' => e = .returned (.bool (mayM m)) ∧ Below w.heap.size w w' := by
  have hck := fun W hr hG => check_any m A c B d W hr hl hl2 hk hG
  have hCK := Lib.hid hck
  clear hck hk
  obtain ⟨kind, from_, to_, g, node, try_, low, code, ticket, told, ops⟩ := m
  simp only at hr hl hl2
  have hB0 := below_alloc (Below.refl _ w) (.cells #[.int .i64 kind, .int .i64 from_, .int .i64 to_, .int .i64 g, .int .i64 node, .int .i64 try_, .int .i64 low, .int .i64 code, .int .i64 ticket, .slice A told.length c, .slice B ops.length d] 37)
  have hR := Lib.hid (hr.below hB0)
  have hGG := Lib.hid (hG.below hB0)
  have hBB := Lib.hid hB0
  clear hr hG hB0
  show Calls Tryz.prog 44 #[.agg #[.int .i64 kind, .int .i64 from_, .int .i64 to_, .int .i64 g, .int .i64 node, .int .i64 try_, .int .i64 low, .int .i64 code, .int .i64 ticket, .slice A told.length c, .slice B ops.length d]] w _
  go_enter Tryz.func44, Tryz.ntmps44
  go_wp2_with fail
  refine (hCK.out _ hR.out hGG.out).mono ?_
  rintro en w1 (⟨hm, rfl, hB1⟩ | ⟨hm, T, b, rfl, hB1⟩)
  · have hM := Lib.hid hm
    have hB2 := Lib.hid (bnext hBB.out hB1)
    clear hm hB1
    go_wp2_with fail
    go_ret
    exact ⟨ret_bool hM.out.symm, hB2.out⟩
  · have hM := Lib.hid hm
    have hB2 := Lib.hid (bnext hBB.out hB1)
    clear hm hB1
    go_wp2_with fail
    go_ret
    exact ⟨ret_bool hM.out.symm, hB2.out⟩
end Go.Proofs.YteeiacfddjhhkaaGreatDoor
