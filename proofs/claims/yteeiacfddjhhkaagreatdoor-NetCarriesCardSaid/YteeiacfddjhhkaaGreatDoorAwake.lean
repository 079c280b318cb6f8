/- byroadlaw20.kept and byroadlaw20.awake: the example holds. -/
import Derived.Test.YteeiacfddjhhkaaGreatDoorSend
import Derived.Test.YteeiacfddjhhkaaGreatDoorTwice
import Derived.Test.YteeiacfddjhhkaaGreatDoorMove
import Derived.Test.YteeiacfddjhhkaaGreatDoorDeliver
namespace Go.Proofs.YteeiacfddjhhkaaGreatDoor
open Go.RowKit
set_option maxRecDepth 100000

def keptM (g site : Int) : PMsg := ⟨13, site, 0, g, 0, 0, 0, 0, 0, [], []⟩
def keptV (g site : Int) : MV := ⟨keptM g site, none, 0, none, 0⟩
theorem kept_any (g site : Int) (w : World) : Calls Tryz.prog 27 #[.int .i64 g, .int .i64 site] w fun e w' => e = .returned (.agg #[.int .i64 13, .int .i64 site, .int .i64 0, .int .i64 g, .int .i64 0, .int .i64 0, .int .i64 0, .int .i64 0, .int .i64 0, .slice none 0 0, .slice none 0 0]) ∧ Below w.heap.size w w' := by
  go_enter Tryz.func27, Tryz.ntmps27
  go_wp2_with fail
  have hb := heap_alloc_new w (.cells #[.int .i64 13, .int .i64 site, .int .i64 0, .int .i64 g, .int .i64 0, .int .i64 0, .int .i64 0, .int .i64 0, .int .i64 0, .slice none 0 0, .slice none 0 0] 37)
  have hB := below_alloc (Below.refl _ w) (.cells #[.int .i64 13, .int .i64 site, .int .i64 0, .int .i64 g, .int .i64 0, .int .i64 0, .int .i64 0, .int .i64 0, .int .i64 0, .slice none 0 0, .slice none 0 0] 37)
  generalize w.alloc (.cells #[.int .i64 13, .int .i64 site, .int .i64 0, .int .i64 g, .int .i64 0, .int .i64 0, .int .i64 0, .int .i64 0, .int .i64 0, .slice none 0 0, .slice none 0 0] 37) = W at *
  have r0 : W.cell? ⟨w.heap.size, 0, none⟩ = some (.int .i64 13) := by rw [block_cell hb]; rfl
  have r1 : W.cell? ⟨w.heap.size, 1, none⟩ = some (.int .i64 site) := by rw [block_cell hb]; rfl
  have r2 : W.cell? ⟨w.heap.size, 2, none⟩ = some (.int .i64 0) := by rw [block_cell hb]; rfl
  have r3 : W.cell? ⟨w.heap.size, 3, none⟩ = some (.int .i64 g) := by rw [block_cell hb]; rfl
  have r4 : W.cell? ⟨w.heap.size, 4, none⟩ = some (.int .i64 0) := by rw [block_cell hb]; rfl
  have r5 : W.cell? ⟨w.heap.size, 5, none⟩ = some (.int .i64 0) := by rw [block_cell hb]; rfl
  have r6 : W.cell? ⟨w.heap.size, 6, none⟩ = some (.int .i64 0) := by rw [block_cell hb]; rfl
  have r7 : W.cell? ⟨w.heap.size, 7, none⟩ = some (.int .i64 0) := by rw [block_cell hb]; rfl
  have r8 : W.cell? ⟨w.heap.size, 8, none⟩ = some (.int .i64 0) := by rw [block_cell hb]; rfl
  have r9 : W.cell? ⟨w.heap.size, 9, none⟩ = some (.slice none 0 0) := by rw [block_cell hb]; rfl
  have r10 : W.cell? ⟨w.heap.size, 10, none⟩ = some (.slice none 0 0) := by rw [block_cell hb]; rfl
  refine bodyPost_ret (v := .agg #[.int .i64 13, .int .i64 site, .int .i64 0, .int .i64 g, .int .i64 0, .int .i64 0, .int .i64 0, .int .i64 0, .int .i64 0, .slice none 0 0, .slice none 0 0]) ?_ rfl ⟨rfl, hB⟩
  simp [results, Tryz.results27, go_sem, *]
theorem keptM_may (g site : Int) (hg : 1 ≤ g ∧ g ≤ 1048576) (hs : 1 ≤ site ∧ site ≤ 3) : mayM (keptM g site) = true := by
  simp [mayM, keptM, knownM, wayM, withinB, nothingM, bareM, checkO, hg, hs]
theorem awake_step {w0 a b : World} {p : Nat} (hB : Below w0.heap.size w0 a) (hp : w0.heap.size ≤ p) (hK : Kept (NS a p) a b) : Below w0.heap.size w0 b :=
  hB.trans (hK.to_below hB.size (fun k h => Nat.le_trans hp h.1))
def kp1 : PK := ⟨encM (keptM 1 1), 1, 0⟩
def kp2 : PK := ⟨encM (keptM 2 2), 2, 0⟩
theorem kept_sent : sendN 9 [] [keptM 1 1, keptM 2 2] = [kp1, kp2] := by
  have h1 := keptM_may 1 1 (by decide) (by decide)
  have h2 := keptM_may 2 2 (by decide) (by decide)
  have a : send1 9 [] (keptM 1 1) = [kp1] := by unfold send1; rw [if_pos ⟨h1, by decide⟩]; rfl
  have b : send1 9 [kp1] (keptM 2 2) = [kp1, kp2] := by unfold send1; rw [if_pos ⟨h2, by decide⟩]; rfl
  show send1 9 (send1 9 [] (keptM 1 1)) (keptM 2 2) = _
  rw [a, b]
theorem keptV_r (g site : Int) (w : World) (hg : i64ok g) (hs : i64ok site) : MsgR w (keptV g site).m (keptV g site).A (keptV g site).c (keptV g site).B (keptV g site).d :=
  ⟨RowAt.nil _ _, RowAt.nil _ _, by simp [keptV, keptM], by simp [keptV, keptM], by simp [keptV, keptM], by simp [keptV, keptM], by simp [keptV, keptM], by
    refine ⟨?_, hs, ?_, hg, ?_, ?_, ?_, ?_, ?_⟩ <;> simp [keptV, keptM, i64ok]⟩
theorem awake_any (w : World) (hG : GOk w) : Calls Tryz.prog 15 #[] w fun e w' => e = .returned (.bool true) ∧ Below w.heap.size w w' := by
  have hGG := Lib.hid hG
  clear hG
  go_enter Tryz.func15, Tryz.ntmps15
  go_wp2_with fail
  refine (new_any 9 _ (by decide)).mono ?_
  rintro e w1 ⟨p, rfl, hN_, hp, hB_⟩
  have hN := Lib.hid hN_
  have hB1 := Lib.hid hB_
  clear hN_ hB_
  go_wp2_with fail
  refine (kept_any 1 1 _).mono ?_
  rintro e w2 ⟨rfl, hB_⟩
  have hB2 := Lib.hid hB_
  clear hB_
  go_wp2_with fail
  refine (kept_any 2 2 _).mono ?_
  rintro e w3 ⟨rfl, hB_⟩
  have hB3 := Lib.hid (bnext hB2.out hB_)
  clear hB_
  go_wp2_with fail
  have hrow : RowAt (w3.alloc (.cells #[.int .i64 13, .int .i64 1, .int .i64 0, .int .i64 1, .int .i64 0, .int .i64 0, .int .i64 0, .int .i64 0, .int .i64 0, .slice none 0 0, .slice none 0 0, .int .i64 13, .int .i64 2, .int .i64 0, .int .i64 2, .int .i64 0, .int .i64 0, .int .i64 0, .int .i64 0, .int .i64 0, .slice none 0 0, .slice none 0 0] 37)) (some ⟨w3.heap.size, 0, none⟩) (mvsC [keptV 1 1, keptV 2 2]) := RowAt.made rfl
  have hb4 := heap_alloc_new w3 (.cells #[.int .i64 13, .int .i64 1, .int .i64 0, .int .i64 1, .int .i64 0, .int .i64 0, .int .i64 0, .int .i64 0, .int .i64 0, .slice none 0 0, .slice none 0 0, .int .i64 13, .int .i64 2, .int .i64 0, .int .i64 2, .int .i64 0, .int .i64 0, .int .i64 0, .int .i64 0, .int .i64 0, .slice none 0 0, .slice none 0 0] 37)
  have hB4 := Lib.hid (below_alloc hB3.out (.cells #[.int .i64 13, .int .i64 1, .int .i64 0, .int .i64 1, .int .i64 0, .int .i64 0, .int .i64 0, .int .i64 0, .int .i64 0, .slice none 0 0, .slice none 0 0, .int .i64 13, .int .i64 2, .int .i64 0, .int .i64 2, .int .i64 0, .int .i64 0, .int .i64 0, .int .i64 0, .int .i64 0, .slice none 0 0, .slice none 0 0] 37))
  generalize w3.alloc (.cells #[.int .i64 13, .int .i64 1, .int .i64 0, .int .i64 1, .int .i64 0, .int .i64 0, .int .i64 0, .int .i64 0, .int .i64 0, .slice none 0 0, .slice none 0 0, .int .i64 13, .int .i64 2, .int .i64 0, .int .i64 2, .int .i64 0, .int .i64 0, .int .i64 0, .int .i64 0, .int .i64 0, .slice none 0 0, .slice none 0 0] 37) = w4 at *
  have hB04 := Lib.hid (bnext hB1.out hB4.out)
  have hS := Send_any p 9 [] [keptV 1 1, keptV 2 2] (some ⟨w3.heap.size, 0, none⟩) 2 w4 (hGG.out.below hB04.out) (hN.out.later hB4.out) hrow
    (fun ad h => by
      cases h
      rintro ⟨_, cur, T, fr, hb, hT⟩
      rw [hb4] at hb
      simp only [Option.some.injEq, Obj.cells.injEq] at hb
      obtain ⟨_, rfl, _⟩ := hb
      simp at hT)
    (fun x hx => by
      simp only [List.mem_cons, List.not_mem_nil, or_false] at hx
      rcases hx with rfl | rfl
      · exact ⟨keptV_r 1 1 w4 (by simp [i64ok]) (by simp [i64ok]), .inl rfl, .inl rfl⟩
      · exact ⟨keptV_r 2 2 w4 (by simp [i64ok]) (by simp [i64ok]), .inl rfl, .inl rfl⟩)
    (by decide)
  rw [show ([keptV 1 1, keptV 2 2].map (·.m)) = [keptM 1 1, keptM 2 2] from rfl, kept_sent, show (([kp1, kp2].length : Int) - ([] : List PK).length) = 2 from rfl] at hS
  have hSH := Lib.hid hS
  clear hS hrow hb4
  refine hSH.out.mono ?_
  rintro e w5 ⟨rfl, hN_, hK_⟩
  have hpp : Hid (w.heap.size ≤ p) := Lib.hid (Nat.le_of_lt hp)
  have hN5 : Hid (NetAt w5 p 9 [kp1, kp2]) := Lib.hid hN_
  have hB5 := Lib.hid (awake_step hB04.out hpp.out hK_)
  clear hN_ hK_
  go_wp2_with fail
  refine (Twice_ok p 9 [kp1, kp2] 0 kp1 _ hN5.out rfl (by decide) (by decide)).mono ?_
  rintro e w6 ⟨rfl, hN_, hK_⟩
  have hN6 : Hid (NetAt w6 p 9 ([kp1, kp2, twiceK kp1])) := Lib.hid hN_
  have hB6 := Lib.hid (awake_step hB5.out hpp.out hK_)
  clear hN_ hK_
  go_wp2_with fail
  refine (Move_ok p 9 [kp1, kp2, twiceK kp1] 2 0 (twiceK kp1) _ hN6.out rfl (by decide) (by decide)).mono ?_
  rintro e w7 ⟨rfl, hN_, hK_⟩
  have hN7 : Hid (NetAt w7 p 9 ([twiceK kp1, kp1, kp2])) := Lib.hid hN_
  have hB7 := Lib.hid (awake_step hB6.out hpp.out hK_)
  clear hN_ hK_
  go_wp2_with fail
  refine (Drop_ok p 9 [twiceK kp1, kp1, kp2] 1 kp1 _ hN7.out rfl (by decide)).mono ?_
  rintro e w8 ⟨rfl, hN_, hK_⟩
  have hN8 : Hid (NetAt w8 p 9 ([twiceK kp1, kp2])) := Lib.hid hN_
  have hB8 := Lib.hid (awake_step hB7.out hpp.out hK_)
  clear hN_ hK_
  go_wp2_with fail
  refine (Hold_ok p 9 [twiceK kp1, kp2] 0 (twiceK kp1) 2 _ hN8.out rfl (by decide)).mono ?_
  rintro e w9 ⟨rfl, hN_, hK_⟩
  have hN9 : Hid (NetAt w9 p 9 ([{ twiceK kp1 with waits := 2 }, kp2])) := Lib.hid hN_
  have hB9 := Lib.hid (awake_step hB8.out hpp.out hK_)
  clear hN_ hK_
  go_wp2_with fail
  refine (Deliver_busy p 9 [{ twiceK kp1 with waits := 2 }, kp2] 0 { twiceK kp1 with waits := 2 } _ (hGG.out.below hB9.out) hN9.out rfl (by decide)).mono ?_
  rintro e w10 ⟨rfl, hB_⟩
  have hN10 := Lib.hid (hN9.out.later hB_)
  have hB10 := Lib.hid (bnext hB9.out hB_)
  clear hB_
  simp only [zeroV]
  go_wp2_with fail
  have hBz := below_alloc (Below.refl _ w10) (.cells #[.int .i64 0, .int .i64 0, .int .i64 0, .int .i64 0, .int .i64 0, .int .i64 0, .int .i64 0, .int .i64 0, .int .i64 0, .slice none 0 0, .slice none 0 0] 37)
  have hN11 := Lib.hid (hN10.out.later hBz)
  have hB11 := Lib.hid (bnext hB10.out hBz)
  clear hBz
  generalize w10.alloc (.cells #[.int .i64 0, .int .i64 0, .int .i64 0, .int .i64 0, .int .i64 0, .int .i64 0, .int .i64 0, .int .i64 0, .int .i64 0, .slice none 0 0, .slice none 0 0] 37) = w11 at *
  refine (Tick_net p 9 [{ twiceK kp1 with waits := 2 }, kp2] _ hN11.out (by decide)).mono ?_
  rintro e w12 ⟨rfl, hN_, hK_⟩
  have hN12 : Hid (NetAt w12 p 9 [{ twiceK kp1 with waits := 1 }, kp2]) := Lib.hid hN_
  have hB12 := Lib.hid (awake_step hB11.out hpp.out hK_)
  clear hN_ hK_
  go_wp2_with fail
  refine (Tick_net p 9 [{ twiceK kp1 with waits := 1 }, kp2] _ hN12.out (by decide)).mono ?_
  rintro e w13 ⟨rfl, hN_, hK_⟩
  have hN13 : Hid (NetAt w13 p 9 [{ twiceK kp1 with waits := 0 }, kp2]) := Lib.hid hN_
  have hB13 := Lib.hid (awake_step hB12.out hpp.out hK_)
  clear hN_ hK_
  go_wp2_with fail
  refine (Deliver_good p 9 [{ twiceK kp1 with waits := 0 }, kp2] 0 { twiceK kp1 with waits := 0 } (keptM 1 1) _ (hGG.out.below hB13.out) hN13.out rfl rfl (by decide) rfl (keptM_may 1 1 (by decide) (by decide)) (by simp [keptM, i64ok])).mono ?_
  rintro e w14 ⟨A12, c12, B12, d12, rfl, _, _, hN_, hK_⟩
  have hN14 : Hid (NetAt w14 p 9 [kp2]) := Lib.hid hN_
  have hB14 := Lib.hid (awake_step hB13.out hpp.out hK_)
  clear hN_ hK_
  simp only [msgA, keptM, List.length_nil]
  have hBz := below_alloc (Below.refl _ w14) (.cells #[.int .i64 13, .int .i64 1, .int .i64 0, .int .i64 1, .int .i64 0, .int .i64 0, .int .i64 0, .int .i64 0, .int .i64 0, .slice A12 0 c12, .slice B12 0 d12] 37)
  have hb := heap_alloc_new w14 (.cells #[.int .i64 13, .int .i64 1, .int .i64 0, .int .i64 1, .int .i64 0, .int .i64 0, .int .i64 0, .int .i64 0, .int .i64 0, .slice A12 0 c12, .slice B12 0 d12] 37)
  have hN15 := Lib.hid (hN14.out.later hBz)
  have hB15 := Lib.hid (bnext hB14.out hBz)
  have y3 : (w14.alloc (.cells #[.int .i64 13, .int .i64 1, .int .i64 0, .int .i64 1, .int .i64 0, .int .i64 0, .int .i64 0, .int .i64 0, .int .i64 0, .slice A12 0 c12, .slice B12 0 d12] 37)).cell? ⟨w14.heap.size, 3, none⟩ = some (.int .i64 1) := by rw [block_cell hb]; rfl
  clear hBz hb
  go_wp2_with fail
  refine (Len_net p 9 [kp2] _ hN15.out).mono ?_
  rintro e w16 ⟨rfl, rfl⟩
  go_wp2_with fail
  go_ret
  exact ⟨rfl, hB15.out⟩
end Go.Proofs.YteeiacfddjhhkaaGreatDoor
