/- ops.Encode returns the bytes opsB of its operations, for every slice of operations that can be read, of which the kinds are from 0 on. -/
import Derived.Test.YteeiacfddjhhkaaGreatDoorSeq
import Derived.Deep.RegionHeld3
namespace Go.Proofs.YteeiacfddjhhkaaGreatDoor
open Go.RowKit
set_option maxRecDepth 100000

def opC (o : POp) : List Value := [.int .i64 o.kind, .string o.key, .int .i64 o.n, .int .i64 o.lo]
def opsC (l : List POp) : List Value := (l.map opC).flatten
def i64ok (n : Int) : Prop := -9223372036854775808 ≤ n ∧ n ≤ 9223372036854775807
def POp.ok (o : POp) : Prop := i64ok o.kind ∧ i64ok o.n ∧ i64ok o.lo
theorem opsC_length (l : List POp) : (opsC l).length = l.length * 4 := by
  induction l with
  | nil => rfl
  | cons o r ih => simp only [opsC, List.map_cons, List.flatten_cons, List.length_append] at *; rw [ih]; simp [opC]; omega
theorem opsC_get (l : List POp) {k : Nat} (h : k < l.length) (j : Nat) (hj : j < 4) : (opsC l)[k * 4 + j]? = (opC l[k])[j]? := by
  induction l generalizing k with
  | nil => simp at h
  | cons o r ih =>
    simp only [opsC, List.map_cons, List.flatten_cons]
    cases k with
    | zero => rw [List.getElem?_append_left (by simp [opC]; omega)]; simp
    | succ k =>
      rw [List.getElem?_append_right (by simp [opC]; omega)]
      have := ih (k := k) (by simpa using h)
      have e : (k + 1) * 4 + j - (opC o).length = k * 4 + j := by simp [opC]; omega
      rw [e]
      simpa [opsC] using this
theorem ops_at {w : World} {A : Option Addr} {l : List POp} (h : RowAt w A (opsC l)) {k : Nat} (hk : k < l.length) :
    ∃ ad, A = some ad ∧ w.cell? (ad.add (k * 4)) = some (.int .i64 l[k].kind) ∧ w.cell? ⟨(ad.add (k * 4)).block, (ad.add (k * 4)).off + 1, none⟩ = some (.string l[k].key) ∧ w.cell? ⟨(ad.add (k * 4)).block, (ad.add (k * 4)).off + 2, none⟩ = some (.int .i64 l[k].n) ∧ w.cell? ⟨(ad.add (k * 4)).block, (ad.add (k * 4)).off + 3, none⟩ = some (.int .i64 l[k].lo) := by
  obtain ⟨ad, hA, h0⟩ := h (k * 4) (.int .i64 l[k].kind) (opsC_get l hk 0 (by omega))
  subst hA
  have g : ∀ j u, 0 < j → j < 4 → (opC l[k])[j]? = some u → w.cell? ⟨(ad.add (k * 4)).block, (ad.add (k * 4)).off + j, none⟩ = some u := by
    intro j u h0 hj hu
    obtain ⟨ad', hA, hc⟩ := h (k * 4 + j) u (by rw [opsC_get l hk j hj]; exact hu)
    cases hA
    rw [← add_off _ _ _ h0]
    exact hc
  exact ⟨ad, rfl, h0, g 1 _ (by omega) (by omega) rfl, g 2 _ (by omega) (by omega) rfl, g 3 _ (by omega) (by omega) rfl⟩

theorem flat_snoc' {α β : Type} (f : α → List β) (l : List α) (k : Nat) (h : k < l.length) : ((l.take (k + 1)).map f).flatten = ((l.take k).map f).flatten ++ f l[k] := by
  rw [List.take_succ_eq_append_getElem h, List.map_append, List.flatten_append]; simp
theorem flat_snoc_opt {α β : Type} (f : α → List β) (l : List α) (k : Nat) (x : α) (h : l[k]? = some x) : ((l.take (k + 1)).map f).flatten = ((l.take k).map f).flatten ++ f x := by
  obtain ⟨h1, h2⟩ := List.getElem?_eq_some_iff.1 h
  rw [flat_snoc' f l k h1, h2]
theorem flat_le {α β : Type} (f : α → List β) (b : Nat) (l : List α) {k : Nat} (hk : l.length ≤ k) (h : ∀ o ∈ l, (f o).length ≤ b) : (l.map f).flatten.length ≤ k * b := by
  refine Nat.le_trans ?_ (Nat.mul_le_mul_right b hk)
  clear hk
  induction l with
  | nil => simp
  | cons o r ih =>
    have h1 := h o List.mem_cons_self
    have h2 := ih (fun o ho => h o (List.mem_cons_of_mem _ ho))
    simp only [List.map_cons, List.flatten_cons, List.length_append, List.length_cons, Nat.add_mul]
    omega
theorem opB_length (o : POp) : (opB o).length ≤ o.key.size + 36 := by
  have h1 := natB_length o.kind.toNat
  have h2 := natB_length o.key.data.toList.length
  have h3 := numB_length o.n
  have h4 := numB_length o.lo
  simp only [opB, strB, List.length_append]
  have e : o.key.data.toList.length = o.key.size := by simp
  omega

set_option maxHeartbeats 1000000 in
theorem opsEnc_any (A : Option Addr) (c : Nat) (l : List POp) (w : World) (hr : RowAt w A (opsC l)) (hl : l.length ≤ 1000000) (hok : ∀ o ∈ l, o.ok ∧ 0 ≤ o.kind) (hk : ∀ o ∈ l, o.key.size ≤ 1000000) :
    Calls Tryz.prog 62 #[.slice A l.length c] w (RetB w (opsB l)) := by
  go_enter Tryz.func62, Tryz.ntmps62
  go_wp2_with fail
  refine (nat_any _ (by omega) _).mono ?_
  rintro e w' ⟨Av, cv, rfl, hO, hB⟩
  have hO' := Lib.hid hO
  have hB' := Lib.hid hB
  have hOK := Lib.hid hok
  have hK := Lib.hid hk
  have hR := Lib.hid hr
  clear hO hB hok hk hr
  go_wp2_with fail
  go_loopw [3, 5, 12] (fun s _ i wr => ∃ k : Nat, k ≤ l.length ∧ i = .int .i64 k ∧ OB wr w.heap.size s (natB l.length ++ ((l.take k).map opB).flatten) ∧ Below w.heap.size w wr) (fun _ _ i _ => l.length - (intOf i).toNat)
  case atStart => exact ⟨0, by omega, rfl, by simpa using hO'.out, hB'.out⟩
  case round =>
    obtain ⟨k, hk, rfl, hO, hB⟩ := hrel
    have hO2 := Lib.hid hO
    have hB2 := Lib.hid hB
    clear hO hB hO' hB'
    by_cases hlt : k < l.length
    · obtain ⟨ad, rfl, c0, c1, c2, c3⟩ := ops_at (hR.out.below hB2.out) hlt
      generalize hx : l[k] = x at *
      obtain ⟨kind, key, n, lo⟩ := x
      have hX := Lib.hid hx
      clear hx
      simp only at c0 c1 c2 c3
      have hx := hOK.out _ (List.getElem_mem hlt)
      have hxk := hK.out _ (List.getElem_mem hlt)
      rw [hX.out] at hx hxk
      obtain ⟨⟨⟨k0, k1⟩, ⟨n0, n1⟩, ⟨l0, l1⟩⟩, kpos⟩ := hx
      simp only at k0 k1 n0 n1 l0 l1 kpos hxk
      have kle : kind < 18446744073709551616 := by omega
      have kwr : IntKind.u64.wrap kind = kind := by rw [IntKind.wrap_u64]; omega
      have kel : key.size ≤ 140737488355000 := by omega
      have hB3 := Lib.hid (below_alloc hB2.out (.cells #[.int .i64 kind, .string key, .int .i64 n, .int .i64 lo] 108))
      have hO3 : Hid (OB (wr.alloc (.cells #[.int .i64 kind, .string key, .int .i64 n, .int .i64 lo] 108)).drew w.heap.size u3 _) := Lib.hid (OB.below hO2.out ((Below.refl _ _).alloc (Nat.le_refl _) (.cells #[.int .i64 kind, .string key, .int .i64 n, .int .i64 lo] 108)).drew)
      have hfl : Hid ([natB kind.toNat, strB key.data.toList, numB n, numB lo].flatten = opB ⟨kind, key, n, lo⟩) := Lib.hid (by simp [opB])
      have hol := opB_length ⟨kind, key, n, lo⟩
      have hflat : Hid ((opB ⟨kind, key, n, lo⟩).length ≤ 140737488355328) := Lib.hid (by
        simp only at hol
        omega)
      have hsum : Hid ((List.map opB (List.take k l)).flatten.length ≤ k * 1000036) := Lib.hid (flat_le _ _ _ (by simp; omega) (fun o ho => by
        have h1 := opB_length o
        have h2 := hK.out o (List.mem_of_mem_take ho)
        omega))
      have hne : Hid (some wr.heap.size ≠ u3.ownBlock) := Lib.hid (fun h => by have := (hO2.out.lt _ h.symm).2; omega)
      have hb9 : Hid ((natB l.length ++ (List.map opB (List.take k l)).flatten).length + (opB ⟨kind, key, n, lo⟩).length ≤ 140737488355328) := Lib.hid (by
        have h1 := natB_length l.length
        have h2 := hsum.out
        simp only at hol
        rw [List.length_append]
        omega)
      clear hol
      go_wp2_with fail
      go_region_held3 (fun w' => w'.cell? ⟨wr.heap.size, 0, none⟩ = some (.int .i64 kind) ∧ w'.cell? ⟨wr.heap.size, 1, none⟩ = some (.string key) ∧ w'.cell? ⟨wr.heap.size, 2, none⟩ = some (.int .i64 n) ∧ w'.cell? ⟨wr.heap.size, 3, none⟩ = some (.int .i64 lo))
        (first | (go_split_ands; exact ⟨hG9.out.cell (by assumption) hne.out, hG9.out.cell (by assumption) hne.out, hG9.out.cell (by assumption) hne.out, hG9.out.cell (by assumption) hne.out⟩) | (go_split_ands; exact ⟨cell_below hU8.out (by assumption), cell_below hU8.out (by assumption), cell_below hU8.out (by assumption), cell_below hU8.out (by assumption)⟩) | (go_split_ands; exact ⟨cell_below hB7.out (by assumption), cell_below hB7.out (by assumption), cell_below hB7.out (by assumption), cell_below hB7.out (by assumption)⟩) | (go_split_ands; exact ⟨cell_below hB6.out (by assumption), cell_below hB6.out (by assumption), cell_below hB6.out (by assumption), cell_below hB6.out (by assumption)⟩) | (go_split_ands; exact ⟨cell_below hB5.out (by assumption), cell_below hB5.out (by assumption), cell_below hB5.out (by assumption), cell_below hB5.out (by assumption)⟩) | (go_split_ands; exact ⟨cell_below hB4.out (by assumption), cell_below hB4.out (by assumption), cell_below hB4.out (by assumption), cell_below hB4.out (by assumption)⟩) | go_keep)
        ((first
          | (go_at_call 57; refine (nat_int kind kpos kle _).mono ?_; rintro e w4 ⟨A4, d4, rfl, hO4_, hB4_⟩; have hO4 := Lib.hid hO4_; have hB4 := Lib.hid hB4_; clear hO4_ hB4_)
          | (go_at_call 61; refine (str_any key kel _).mono ?_; rintro e w5 ⟨A5, d5, rfl, hO5_, hB5_⟩; have hO5 := Lib.hid hO5_; have hB5 := Lib.hid hB5_; clear hO5_ hB5_)
          | (go_at_call 59; have _t := hO6; refine (num_any lo l0 l1 _).mono ?_; rintro e w7 ⟨A7, d7, rfl, hO7_, hB7_⟩; have hO7 := Lib.hid hO7_; have hB7 := Lib.hid hB7_; clear hO7_ hB7_)
          | (go_at_call 59; refine (num_any n n0 n1 _).mono ?_; rintro e w6 ⟨A6, d6, rfl, hO6_, hB6_⟩; have hO6 := Lib.hid hO6_; have hB6 := Lib.hid hB6_; clear hO6_ hB6_)
          | (go_at_call 58; refine (seq_any _ [natB kind.toNat, strB key.data.toList, numB n, numB lo] (opB ⟨kind, key, n, lo⟩) _ (RP.made4 (RB.of_own (((hO4.out.below hB5.out).below hB6.out).below hB7.out)) (RB.of_own ((hO5.out.below hB6.out).below hB7.out)) (RB.of_own (hO6.out.below hB7.out)) (RB.of_own hO7.out)) hfl.out hflat.out).mono ?_; rintro e w8 ⟨A8, d8, rfl, hO8_, hB8_⟩; have hO8 := Lib.hid hO8_; have hU8 := Lib.hid hB8_; have hB8 := Lib.hid (bboxed hB8_); clear hO8_ hB8_)
          | (refine step_of_wp rfl ?_; refine wp_append_B _ _ rfl w.heap.size u3 _ _ _ _ rfl rfl (((((hO3.out.below hB4.out).below hB5.out).below hB6.out).below hB7.out).below hB8.out) rfl (RB.of_own hO8.out) hb9.out (bnext (bnext (bnext (bnext (bnext hB3.out.drew hB4.out) hB5.out) hB6.out) hB7.out) hB8.out).size ?_; intro v9 w9 hO9_ hG9_ _; have hO9 := Lib.hid hO9_; have hG9 := Lib.hid hG9_; clear hO9_ hG9_)))
      have hBf := (bnext (bnext (bnext (bnext (bnext hB3.out.drew hB4.out) hB5.out) hB6.out) hB7.out) hB8.out)
      have hBf2 := Lib.hid (hBf.grown hG9.out hBf.size (own_ge hO2.out))
      clear hBf
      go_wp2_with fail
      go_roundw
      case rel => exact ⟨k + 1, by omega, by go_num, by rw [flat_snoc' _ _ _ hlt, hX.out, ← List.append_assoc]; exact hO9.out, hBf2.out⟩
      case measure => simp [intOf]; omega
    · go_wp2_with fail
      have hk2 : l.take k = l := List.take_of_length_le (by omega)
      have hO3 := hO2.out
      rw [hk2] at hO3
      go_ret
      exact RetB.mk rfl (v := u3) hO3 hB2.out
end Go.Proofs.YteeiacfddjhhkaaGreatDoor
