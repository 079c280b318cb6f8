/- net.Tick. -/
import Derived.Test.YteeiacfddjhhkaaGreatDoorNet2
import Derived.StillTailTactics
namespace Go.Proofs.YteeiacfddjhhkaaGreatDoor
open Go.RowKit
set_option maxRecDepth 100000

def tickK (k : PK) : PK := { k with waits := max (k.waits - 1) 0 }
def tickN (ks : List PK) (n : Nat) : List PK := (ks.take n).map tickK ++ ks.drop n
theorem tickN_len (ks : List PK) (n : Nat) : (tickN ks n).length = ks.length := by simp [tickN]; omega
theorem tickN_at (ks : List PK) (n : Nat) : (tickN ks n)[n]? = ks[n]? := by
  unfold tickN
  by_cases h : n ≤ ks.length
  · rw [List.getElem?_append_right (by simp [h])]
    simp [Nat.min_eq_left h]
  · rw [List.getElem?_eq_none (by simp; omega), List.getElem?_eq_none (by omega)]
theorem tickN_succ (ks : List PK) (n : Nat) (k : PK) (h : ks[n]? = some k) : tickN ks (n + 1) = (tickN ks n).set n (tickK k) := by
  obtain ⟨hn, e⟩ := List.getElem?_eq_some_iff.1 h
  unfold tickN
  rw [List.set_append_right _ _ (by simp; omega), List.take_succ_eq_append_getElem hn, List.map_append, List.drop_eq_getElem_cons hn, e]
  simp [Nat.min_eq_left (Nat.le_of_lt hn)]
theorem KeptN_trans {p : Nat} {a b c : World} (h : Kept (NS a p) a b) (k : Kept (NS b p) b c) : Kept (NS a p) a c :=
  h.trans k fun j hj hS => by
    by_cases hn : NS a p j
    · exact hn
    · obtain ⟨hp, cur, T, fr, hb, hT⟩ := hS
      exact ⟨hp, cur, T, fr, (h.block j hj hn).symm.trans hb, hT⟩
theorem Tick_net (p : Nat) (most : Int) (ks : List PK) (w : World) (h : NetAt w p most ks) (hl : ks.length ≤ 100000) :
    Calls Tryz.prog 24 #[.pointer (some ⟨p, 0, none⟩)] w fun e w' => e = .returned (.tuple #[]) ∧ NetAt w' p most (tickN ks ks.length) ∧ Kept (NS w p) w w' := by
  have hN := Lib.hid h
  obtain ⟨A, c, mb, mk, vs, h1, _⟩ := h
  have x1 : w.cell? ⟨p, 1, none⟩ = some (.slice A ks.length c) := by rw [block_cell h1]; rfl
  clear h1
  go_enter Tryz.func24, Tryz.ntmps24
  go_wp2_with fail
  go_loopw [2, 10] (fun _ i wr => ∃ k : Nat, k ≤ ks.length ∧ i = .int .i64 k ∧ NetAt wr p most (tickN ks k) ∧ Kept (NS w p) w wr) (fun _ i _ => ks.length - (intOf i).toNat)
  case atStart => exact ⟨0, by omega, rfl, by simpa [tickN] using hN.out, Kept.refl _ _⟩
  case round =>
    obtain ⟨n, hn, rfl, hN_, hK_⟩ := hrel
    by_cases hlt : n < ks.length
    · obtain ⟨k, hk⟩ : ∃ k, ks[n]? = some k := ⟨_, List.getElem?_eq_getElem hlt⟩
      have hK := Lib.hid hK_
      obtain ⟨A', c', mb', mk', vs', h1, h2, h3, h4, h5, h6⟩ := hN_
      obtain ⟨g, cap, hA⟩ : ∃ g cap, Value.slice A' (tickN ks n).length c' = .slice (some ⟨g, 0, none⟩) (tickN ks n).length cap := by
        rcases h4.2 with ⟨_, h'⟩ | ⟨g', cap', cur, h', _⟩
        · rw [tickN_len] at h'; omega
        · exact ⟨g', cap', h'⟩
      cases hA
      have hkt : (tickN ks n)[n]? = some k := by rw [tickN_at, hk]
      have hvl : n < vs'.length := by rw [h5, tickN_len]; exact hlt
      have hv : vs'[n]? = some vs'[n] := List.getElem?_eq_getElem hvl
      obtain ⟨_, _, hw0, hw1⟩ := h6 n _ k hv hkt
      have hend := NetAt.waits (w := wr.drew) (t := max (k.waits - 1) 0) h1 h2 h3 h4 h5 h6 hkt (by omega)
      rw [show ({ k with waits := max (k.waits - 1) 0 } : PK) = tickK k from rfl, ← tickN_succ ks n k hk] at hend
      have hEnd := Lib.hid hend
      have hlen := tickN_len ks n
      have x2 : wr.cell? ⟨p, 1, none⟩ = some (.slice (some ⟨g, 0, none⟩) ks.length c') := by rw [block_cell h1, hlen]; rfl
      have y2 : wr.cell? ⟨g, n * 3 + 2, none⟩ = some (.int .i64 k.waits) := by rw [h4.cellAt _ (by rw [hlen]; omega)]; exact (pksC_get vs' _ n _ k hv hkt).2.2
      have z2 : wr.frozen? ⟨g, n * 3 + 2, none⟩ = false := h4.frozenAt _
      clear h1 h2 h3 h4 h5 h6 hk hv hkt hend hlen hK_
      have hK2 : Hid (Kept (NS w p) w wr.drew) := Lib.hid hK.out.drew
      have y3 : wr.drew.cell? ⟨g, n * 3 + 2, none⟩ = some (.int .i64 k.waits) := y2
      have z3 : wr.drew.frozen? ⟨g, n * 3 + 2, none⟩ = false := z2
      have x3 : wr.drew.cell? ⟨p, 1, none⟩ = some (.slice (some ⟨g, 0, none⟩) ks.length c') := x2
      generalize k.waits = t at *
      go_wp2_with fail
      go_still_tail 17, (by kernel_rfl)
      change wpList _ _ _ _ _ wr.drew
      generalize wr.drew = wd at *
      have hmx : max (t - 1) 0 = (if t - 1 < 0 then 0 else t - 1) := by split <;> omega
      rw [hmx] at hEnd
      clear hmx
      go_wp2_with fail
      refine ⟨⟨n + 1, by omega, by go_num, hEnd.out.1, KeptN_trans hK2.out hEnd.out.2⟩, by simp [intOf]; omega⟩
    · have hnn : n = ks.length := by omega
      subst hnn
      have hN9 := Lib.hid hN_
      have hK9 := Lib.hid hK_
      clear hN_ hK_
      go_wp2_with fail
      refine ⟨rfl, .tuple #[], ?_, rfl, hN9.out, hK9.out⟩
      simp [results, Tryz.results24, go_sem]
end Go.Proofs.YteeiacfddjhhkaaGreatDoor
