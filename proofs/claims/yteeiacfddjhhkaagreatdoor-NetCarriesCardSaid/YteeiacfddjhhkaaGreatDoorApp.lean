/- append to an owned row of which it is known that its cells stay where they were; Twice. -/
import Derived.Test.YteeiacfddjhhkaaGreatDoorDrop
import Derived.Test.YteeiacfddjhhkaaGreatDoorNone
import Derived.Deep.RegionHeld3
namespace Go.Proofs.YteeiacfddjhhkaaGreatDoor
open Go.RowKit
set_option maxRecDepth 100000

theorem run_append_keep {P : Program} {w : World} (base : Nat) (t ty e : TypeId) (i : TypeInfo) (z : Value) (size bytes : Nat) (ht : P.underlying t = some (.slice e)) (hi : P.info? e = some i) (hz : i.zero = some z)
    (hsize : i.size = size) (hby : i.bytes = bytes) (hzs : z.cells.size = size) (hsz : 0 < size)
    (v : Value) (n : Nat) (xs : List Value) (hown : w.ownsRow base e size v n xs)
    (a : Addr) (m c : Nat) (news : List Value) (hl : news.length = m * size) (hnews : ∀ j u, news[j]? = some u → w.cell? (a.add j) = some u) (h1 : ∀ u ∈ news, u.oneCell' = true)
    (h63 : n + m ≤ maxLen) (hbytes : (n + m) * bytes ≤ 140737488355328) (hbase : base ≤ w.heap.size) :
    ∃ v' w', (Builtin.append_ #[t, t] ty #[v, .slice (some a) m c]).run P w = .ok v' w' ∧ w'.ownsRow base e size v' (n + m) (xs ++ news) ∧ w.grownBy w' v.ownBlock ∧
      (∀ g c', v = .slice (some ⟨g, 0, none⟩) n c' → ∀ j u, xs[j]? = some u → w'.cell? ⟨g, j, none⟩ = some u) ∧ (v'.ownBlock = v.ownBlock ∨ v'.ownBlock = some w.heap.size) := by
  by_cases hbig : ∃ g cap, v = .slice (some ⟨g, 0, none⟩) n cap ∧ ¬ (n + m ≤ cap)
  · obtain ⟨g, cap, rfl, hroom⟩ := hbig
    subst hsize
    subst hby
    have hsmall : n + m ≤ 9223372036854775807 := by simp only [maxLen] at h63; omega
    have hlen : (xs ++ news).length = (n + m) * i.size := by rw [List.length_append, hown.1, hl, Nat.add_mul]
    have holds : ∀ j u, xs[j]? = some u → w.cell? ((⟨g, 0, none⟩ : Addr).add j) = some u := hown.cells (g := g) rfl
    have hr := run_append_grow (P := P) w t ty e i z ht hi hz ⟨g, 0, none⟩ n cap xs hown.1 holds a m c news hl hnews (by omega) (by omega) (growslice_fits (by omega) hbytes)
    have hge := grownCap_ge w (n + m) cap e
    have hcm : grownCap w (n + m) cap e ≤ maxLen := grownCap_le_maxLen w (n + m) cap e h63
    refine ⟨_, _, hr, ⟨hlen, .inr ⟨w.heap.size, _, _, rfl, hbase, heap_alloc_new w.drew _, hge, hcm, ?_, ?_⟩⟩, ⟨rfl, rfl, rfl, by simp, fun k hk _ => heap_alloc_old w.drew _ hk⟩, ?_, Or.inr rfl⟩
    · simp only [Array.size_append, List.size_toArray, size_zeroCells, hzs, hown.1, hl, ← Nat.add_mul]
      congr 1
      omega
    · simp only [Array.toList_append, List.append_assoc]
      rw [← List.append_assoc, ← hlen]
      exact List.take_left
    · intro g' c' he j u hj
      simp only [Value.slice.injEq, Option.some.injEq, Addr.mk.injEq, and_true, true_and] at he
      obtain ⟨rfl, rfl⟩ := he
      have h0 := holds j u hj
      rw [add_plain] at h0
      exact (World.cell?_of_block (heap_alloc_old w.drew _ (World.block_lt_of_cell? w _ h0))).trans h0
  · obtain ⟨v', w', hr, h2, h3, h4, h5⟩ := run_append_own_at (P := P) w base t ty e i z size bytes ht hi hz hsize hby hzs hsz v n xs hown a m c news hl hnews h1 h63 hbytes hbase
    refine ⟨v', w', hr, h2, h3, ?_, h5⟩
    rintro g c' rfl j u hj
    have hroom : n + m ≤ c' := by
      by_cases h : n + m ≤ c'
      · exact h
      · exact absurd ⟨g, c', rfl, h⟩ hbig
    have hjl : j < xs.length := (List.getElem?_eq_some_iff.1 hj).1
    rcases h5 with h5 | h5
    · obtain ⟨A, d, rfl⟩ := own_slice h2
      rcases h2.2 with ⟨h', _⟩ | ⟨g', cap', cur, h', _⟩
      · rw [h'] at h5
        simp [Value.ownBlock] at h5
      · rw [h'] at h5 h2
        simp [Value.ownBlock] at h5
        subst h5
        rw [h2.cellAt j (by rw [Nat.add_mul, ← hown.1]; omega), List.getElem?_append_left hjl]
        exact hj
    · exfalso
      have hg2 : ∃ cur, w.heap[g]? = some (.cells cur e (0, 0)) ∧ n * size + news.length ≤ cur.size ∧ cur.size = c' * size := by
        rcases hown.2 with ⟨h', _⟩ | ⟨g', cap', cur, h', _, hg', _, _, hs, _⟩
        · simp at h'
        · simp only [Value.slice.injEq, Option.some.injEq, Addr.mk.injEq, and_true, true_and] at h'
          obtain ⟨rfl, rfl⟩ := h'
          exact ⟨cur, hg', by rw [hs, hl, ← Nat.add_mul]; exact Nat.mul_le_mul_right _ hroom, hs⟩
      obtain ⟨cur, hg', hfit, _⟩ := hg2
      have hr2 := run_append_room (P := P) w t ty e i ht hi g n c' cur hg' a m c news (by rw [hsize]; exact hl) hnews h1 hroom (by rw [hsize]; exact hfit)
      rw [hr] at hr2
      simp only [Result.ok.injEq] at hr2
      rw [hr2.1] at h5
      simp [Value.ownBlock] at h5
      have := lt_of_block hg'
      omega
/-- append(v, src...), v owned, src read, not nil. -/
theorem wp_append_keep {P : Program} {w : World} {o : Oper} {a : Act} {K : Act → World → Prop} {Q : Exit → Act → World → Prop} (s x : Operand) (t : TypeId)
    (ho : o.op = .call { callee := .builtin .append, args := #[s, x], argTypes := #[t, t] })
    (base : Nat) (e : TypeId) (z : Value) (size bytes : Nat) (ht : P.underlying t = some (.slice e)) (hinfo : (P.info? e).map (fun i => (i.zero, i.size, i.bytes)) = some (some z, size, bytes)) (hzs : z.cells.size = size) (hsz : 0 < size) (hb0 : 0 < bytes)
    (v : Value) (n : Nat) (xs : List Value) (hs : a.eval s = v) (hown : w.ownsRow base e size v n xs)
    (ad : Addr) (m c : Nat) (ns : List Value) (hx : a.eval x = .slice (some ad) m c) (hl : ns.length = m * size) (hrow : RowAt w (some ad) ns) (h1 : ∀ u ∈ ns, u.oneCell' = true)
    (hbytes : (n + m) * bytes ≤ 140737488355328) (hbase : base ≤ w.heap.size)
    (h : ∀ v' w', w'.ownsRow base e size v' (n + m) (xs ++ ns) → w.grownBy w' v.ownBlock → (∀ g c', v = .slice (some ⟨g, 0, none⟩) n c' → ∀ j u, xs[j]? = some u → w'.cell? ⟨g, j, none⟩ = some u) → (v'.ownBlock = v.ownBlock ∨ v'.ownBlock = some w.heap.size) → K (a.put o.dst v') w') :
    o.wp P a w K Q := by
  obtain ⟨i, hi, hz, hsize, hby⟩ := info_parts hinfo
  have h63 : n + m ≤ 140737488355328 := Nat.le_trans (Nat.le_mul_of_pos_right _ hb0) hbytes
  have hnews : ∀ j u, ns[j]? = some u → w.cell? (ad.add j) = some u := fun j u hu => by
    obtain ⟨ad', hA, hc⟩ := hrow j u hu
    cases hA
    exact hc
  obtain ⟨v', w', hr, h2, h3, h4, h5⟩ := run_append_keep (P := P) base t o.type e i z size bytes ht hi hz hsize hby hzs hsz v n xs hown ad m c ns hl hnews h1 (by simp only [maxLen]; omega) hbytes hbase
  unfold Oper.wp execOp
  simp only [ho, resolve, invoke, builtin, Sem.run_bind, Sem.run_pure, Result.andThen_ok, List.map_toArray, List.map_cons, List.map_nil, hs, hx, hr]
  exact h v' w' h2 h3 h4 h5
theorem pksC_push (vs : List Value) (ks : List PK) (v : Value) (k : PK) (h : vs.length = ks.length) : pksC (vs ++ [v]) (ks ++ [k]) = pksC vs ks ++ [v, .int .i64 k.site, .int .i64 k.waits] := by
  unfold pksC
  rw [List.zipWith_append h]
  simp [pkC]
theorem own_type {w : World} {base n size g : Nat} {e : TypeId} {v : Value} {xs : List Value} (h : w.ownsRow base e size v n xs) (hg : v.ownBlock = some g) : ∃ cur, w.heap[g]? = some (.cells cur e (0, 0)) := by
  rcases h.2 with ⟨rfl, _⟩ | ⟨g', cap', cur, rfl, _, hg', _⟩
  · simp [Value.ownBlock] at hg
  · simp [Value.ownBlock] at hg
    subst hg
    exact ⟨cur, hg'⟩
/-- A packet is appended. -/
theorem NetAt.pushed {w w3 w9 : World} {p : Nat} {most : Int} {ks : List PK} {A A9 : Option Addr} {c d9 mb mk : Nat} {vs : List Value} {v1 : Value} {k : PK}
    (h1 : w.heap[p]? = some (.cells #[.int .i64 most, .slice A ks.length c, .map (some mb)] 71 (0, 0))) (h2 : w.heap[mb]? = some (.map #[] mk)) (h3 : mb < p) (h4 : w.ownsRow (p + 1) 77 3 (.slice A ks.length c) ks.length (pksC vs ks)) (h5 : vs.length = ks.length)
    (h6 : ∀ (i : Nat) (v : Value) (k : PK), vs[i]? = some v → ks[i]? = some k → OB w (p + 1) v k.b ∧ k.b.length ≤ 100000 ∧ 0 ≤ k.waits ∧ k.waits ≤ 1000)
    (hB : Below w.heap.size w w3) (hO : w9.ownsRow (p + 1) 77 3 (.slice A9 (ks.length + 1) d9) (ks.length + 1) (pksC vs ks ++ [v1, .int .i64 k.site, .int .i64 k.waits])) (hG : w3.grownBy w9 (Value.slice A ks.length c).ownBlock)
    (hv : OB w3 (p + 1) v1 k.b) (hbl : k.b.length ≤ 100000) (hw0 : 0 ≤ k.waits) (hw1 : k.waits ≤ 1000) :
    NetAt (w9.setCell ⟨p, 1, none⟩ (.slice A9 (ks.length + 1) d9)) p most (ks ++ [k]) ∧ Kept (NS w p) w (w9.setCell ⟨p, 1, none⟩ (.slice A9 (ks.length + 1) d9)) := by
  have kA : Kept (NS w p) w w3 := Kept.of_below _ hB
  have h43 := own_below h4 hB
  have kB : Kept (NS w3 p) w3 w9 := ⟨hG.os, hG.tape, hG.output, hG.size, fun q hq hn => hG.block q hq (fun e => by
    obtain ⟨cur, hc⟩ := own_type h43 e.symm
    have := own_ge h43 q e.symm
    exact hn ⟨by omega, cur, _, _, hc, .inl rfl⟩)⟩
  have h13 := block_below hB h1
  have hne : ∀ q, (Value.slice A ks.length c).ownBlock = some q → p + 1 ≤ q := fun q hq => own_ge h4 q hq
  have h19 : w9.heap[p]? = some (.cells #[.int .i64 most, .slice A ks.length c, .map (some mb)] 71 (0, 0)) := (hG.block p (lt_of_block h13) (fun e => by have := hne p e.symm; omega)).trans h13
  have h29 : w9.heap[mb]? = some (.map #[] mk) := (hG.block mb (lt_of_block (block_below hB h2)) (fun e => by have := hne mb e.symm; omega)).trans (block_below hB h2)
  have kC : Kept (NS w9 p) w9 (w9.setCell ⟨p, 1, none⟩ (.slice A9 (ks.length + 1) d9)) := Kept.setCell (p := ⟨p, 1, none⟩) (Kept.refl _ w9) (.inl ⟨Nat.le_refl _, _, _, _, h19, .inr rfl⟩) _
  have kBC := KeptN_trans kB kC
  have kAll := KeptN_trans kA kBC
  have hlen : (ks ++ [k]).length = ks.length + 1 := by simp
  refine ⟨⟨A9, d9, mb, mk, vs ++ [v1], ?_, ?_, h3, ?_, by simp [h5], ?_⟩, kAll⟩
  · rw [hlen]; exact block_setCell h19 1 _
  · rw [Below.heap_setCell _ _ _ _ (by show mb ≠ p; omega)]; exact h29
  · rw [hlen, pksC_push vs ks v1 k h5]
    exact own_move hO fun q hq => Below.heap_setCell _ _ _ _ (by have := own_ge hO q hq; show q ≠ p; omega)
  · intro j v k' hv' hk'
    by_cases hj : j < ks.length
    · rw [List.getElem?_append_left (by omega)] at hv' hk'
      obtain ⟨a1, a2⟩ := h6 j v k' hv' hk'
      exact ⟨a1.keptN kAll, a2⟩
    · rw [List.getElem?_append_right (by omega)] at hv' hk'
      obtain ⟨m, hm⟩ : ∃ m, j = ks.length + m := ⟨j - ks.length, by omega⟩
      subst hm
      have e1 : ks.length + m - vs.length = m := by omega
      have e2 : ks.length + m - ks.length = m := by omega
      rw [e1] at hv'
      rw [e2] at hk'
      cases m with
      | zero =>
        simp at hv' hk'
        subst hv' hk'
        exact ⟨hv.keptN kBC, hbl, hw0, hw1⟩
      | succ m => simp at hv'
end Go.Proofs.YteeiacfddjhhkaaGreatDoor
