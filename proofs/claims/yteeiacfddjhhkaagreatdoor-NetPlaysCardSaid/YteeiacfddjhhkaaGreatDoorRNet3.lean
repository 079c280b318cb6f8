/- The document's net as it lies in memory; take. The document's net: put. The document's net: Tick. -/
import Derived.Laws.OwnMore
import Derived.Test.YteeiacfddjhhkaaGreatDoorMove
namespace Go.Proofs.YteeiacfddjhhkaaGreatDoor
open Go.RowKit
set_option maxRecDepth 100000

/-- The document's net in block p. -/
def RefAt (cz : Cuts) (w : World) (p : Nat) (most : Int) (ks : List PK) : Prop :=
  ∃ A c vs, w.heap[p]? = some (.cells #[.int .i64 most, .slice A ks.length c, .bool false, .bool cz.c1, .bool cz.c2, .bool cz.c3] 60 (0, 0)) ∧ w.ownsRow 0 97 3 (.slice A ks.length c) ks.length (pksC vs ks) ∧ vs.length = ks.length ∧
    ∀ (i : Nat) (v : Value) (k : PK), vs[i]? = some v → ks[i]? = some k → OB w 0 v k.b ∧ k.b.length ≤ 100000
variable {cz : Cuts}
theorem RefAt.keptS {S : Nat → Prop} {w w' : World} {p : Nat} {most : Int} {ks : List PK} (h : RefAt cz w p most ks) (hk : Kept S w w')
    (hS : ∀ (q : Nat) (cur : Array Value) (T : TypeId) (fr : Nat × Nat), S q → w.heap[q]? = some (.cells cur T fr) → T ≠ 97 ∧ T ≠ 60 ∧ T ≠ 5) : RefAt cz w' p most ks := by
  obtain ⟨A, c, vs, h1, h2, h3, h4⟩ := h
  have key : ∀ (q : Nat) (cur : Array Value) (T : TypeId) (fr : Nat × Nat), w.heap[q]? = some (.cells cur T fr) → (T = 97 ∨ T = 60 ∨ T = 5) → w'.heap[q]? = w.heap[q]? := fun q cur T fr hq hT => hk.block q (lt_of_block hq) (fun hs => by
    obtain ⟨n1, n2, n3⟩ := hS q cur T fr hs hq
    rcases hT with h | h | h
    · exact n1 h
    · exact n2 h
    · exact n3 h)
  refine ⟨A, c, vs, (key p _ _ _ h1 (.inr (.inl rfl))).trans h1, own_move h2 fun q hq => ?_, h3, fun i v k hv hk' => ⟨own_move (h4 i v k hv hk').1 fun q hq => ?_, (h4 i v k hv hk').2⟩⟩
  · obtain ⟨cur, e⟩ := own_type h2 hq
    exact key q _ _ _ e (.inl rfl)
  · obtain ⟨cur, e⟩ := own_type (h4 i v k hv hk').1 hq
    exact key q _ _ _ e (.inr (.inr rfl))
theorem RefAt.later {w w' : World} {p : Nat} {most : Int} {ks : List PK} (h : RefAt cz w p most ks) (hb : Below w.heap.size w w') : RefAt cz w' p most ks :=
  h.keptS (Kept.of_below (fun _ => False) hb) (fun _ _ _ _ h => h.elim)
theorem RefAt.lt {w : World} {p : Nat} {most : Int} {ks : List PK} (h : RefAt cz w p most ks) : p < w.heap.size := by
  obtain ⟨A, c, vs, h1, _⟩ := h
  exact lt_of_block h1
/-- A new row in the net's cell. -/
theorem RefAt.turned {w w4 : World} {p : Nat} {most : Int} {ks ks2 : List PK} {A A2 : Option Addr} {c c2 : Nat} {vs2 : List Value} (hb : w.heap[p]? = some (.cells #[.int .i64 most, .slice A ks.length c, .bool false, .bool cz.c1, .bool cz.c2, .bool cz.c3] 60 (0, 0))) (hB : Below w.heap.size w w4)
    (hO : w4.ownsRow 0 97 3 (.slice A2 ks2.length c2) ks2.length (pksC vs2 ks2)) (hl : vs2.length = ks2.length) (h4 : ∀ (i : Nat) (v : Value) (k : PK), vs2[i]? = some v → ks2[i]? = some k → OB w4 0 v k.b ∧ k.b.length ≤ 100000) :
    RefAt cz (w4.setCell ⟨p, 1, none⟩ (.slice A2 ks2.length c2)) p most ks2 ∧ Kept (· = p) w (w4.setCell ⟨p, 1, none⟩ (.slice A2 ks2.length c2)) := by
  have hb4 := block_below hB hb
  have hfar : ∀ (T : TypeId) (cur : Array Value) (fr : Nat × Nat) (q : Nat), w4.heap[q]? = some (.cells cur T fr) → T ≠ 60 → (w4.setCell ⟨p, 1, none⟩ (.slice A2 ks2.length c2)).heap[q]? = w4.heap[q]? := fun T cur fr q hq hT => Below.heap_setCell _ _ _ _ (by
    rintro rfl
    rw [hb4] at hq
    simp only [Option.some.injEq, Obj.cells.injEq] at hq
    exact hT hq.2.1.symm)
  refine ⟨⟨A2, c2, vs2, by rw [block_setCell hb4 1]; rfl, own_move hO fun q hq => ?_, hl, fun i v k hv hk => ⟨own_move (h4 i v k hv hk).1 fun q hq => ?_, (h4 i v k hv hk).2⟩⟩, Kept.setCell (S := (· = p)) (p := ⟨p, 1, none⟩) (Kept.of_below _ hB) (.inl rfl) _⟩
  · obtain ⟨cur, e⟩ := own_type hO hq
    exact hfar _ _ _ q e (by decide)
  · obtain ⟨cur, e⟩ := own_type (h4 i v k hv hk).1 hq
    exact hfar _ _ _ q e (by decide)
theorem RefAt.turned3 {w w4 W : World} {p : Nat} {most : Int} {ks ks2 : List PK} {A A2 : Option Addr} {c c2 : Nat} {vs2 : List Value} (hb : w.heap[p]? = some (.cells #[.int .i64 most, .slice A ks.length c, .bool false, .bool cz.c1, .bool cz.c2, .bool cz.c3] 60 (0, 0))) (hB : Below w.heap.size w w4)
    (hO : w4.ownsRow 0 97 3 (.slice A2 ks2.length c2) ks2.length (pksC vs2 ks2)) (hl : vs2.length = ks2.length) (h4 : ∀ (i : Nat) (v : Value) (k : PK), vs2[i]? = some v → ks2[i]? = some k → OB w4 0 v k.b ∧ k.b.length ≤ 100000)
    (r : Nat) (hrp : r ≠ p) (hK : Kept (· = r) (w4.setCell ⟨p, 1, none⟩ (.slice A2 ks2.length c2)) W) (hr : ∀ q, (Value.slice A2 ks2.length c2).ownBlock = some q → q ≠ r) (hrt : ∃ cur fr, w4.heap[r]? = some (.cells cur 97 fr)) : RefAt cz W p most ks2 := by
  have hb4 := block_below hB hb
  obtain ⟨curR, frR, hR⟩ := hrt
  have hfar : ∀ (T : TypeId) (cur : Array Value) (fr : Nat × Nat) (q : Nat), w4.heap[q]? = some (.cells cur T fr) → T ≠ 60 → q ≠ r → W.heap[q]? = w4.heap[q]? := fun T cur fr q hq hT hqr => by
    have h1 : (w4.setCell ⟨p, 1, none⟩ (.slice A2 ks2.length c2)).heap[q]? = w4.heap[q]? := Below.heap_setCell _ _ _ _ (by
      rintro rfl
      rw [hb4] at hq
      simp only [Option.some.injEq, Obj.cells.injEq] at hq
      exact hT hq.2.1.symm)
    exact (hK.block q (by rw [World.size_setCell]; exact lt_of_block hq) hqr).trans h1
  refine ⟨A2, c2, vs2, ?_, own_move hO fun q hq => ?_, hl, fun i v k hv hk => ⟨own_move (h4 i v k hv hk).1 fun q hq => ?_, (h4 i v k hv hk).2⟩⟩
  · rw [hK.block p (by rw [World.size_setCell]; exact lt_of_block hb4) (fun e => hrp e.symm), block_setCell hb4 1]
    rfl
  · obtain ⟨cur, e⟩ := own_type hO hq
    exact hfar _ _ _ q e (by decide) (hr q hq)
  · obtain ⟨cur, e⟩ := own_type (h4 i v k hv hk).1 hq
    refine hfar _ _ _ q e (by decide) ?_
    rintro rfl
    rw [hR] at e
    simp at e
theorem Tryz.infoRPk : (Tryz.prog.info? 97).map (fun i => (i.zero, i.size, i.bytes)) = some (some (.agg #[.slice none 0 0, .int .i64 0, .int .i64 0]), 3, 40) := by kernel_rfl
theorem OB.one {w : World} {v : Value} {b : List UInt8} (h : OB w 0 v b) : v.oneCell' = true := by
  obtain ⟨A, c, rfl⟩ := own_slice h
  rfl
theorem erase_at {α β : Type} (vs : List α) (ks : List β) (i j : Nat) (v : α) (k : β) (hv : (vs.eraseIdx i)[j]? = some v) (hk : (ks.eraseIdx i)[j]? = some k) : ∃ j' : Nat, vs[j']? = some v ∧ ks[j']? = some k := by
  rw [List.getElem?_eraseIdx] at hv hk
  by_cases h : j < i
  · rw [if_pos h] at hv hk
    exact ⟨j, hv, hk⟩
  · rw [if_neg h] at hv hk
    exact ⟨j + 1, hv, hk⟩
set_option maxHeartbeats 2000000 in
theorem take_any (p : Nat) (most : Int) (ks : List PK) (i : Nat) (k : PK) (w : World) (h : RefAt cz w p most ks) (hk : ks[i]? = some k) (hl : ks.length ≤ 100000) :
    Calls Tryz.prog 81 #[.pointer (some ⟨p, 0, none⟩), .int .i64 i] w fun e w' => ∃ A c, e = .returned (.agg #[.slice A k.b.length c, .int .i64 k.site, .int .i64 k.waits]) ∧ OB w' 0 (.slice A k.b.length c) k.b ∧ RefAt cz w' p most (ks.eraseIdx i) ∧ Kept (· = p) w w' := by
  have hN := Lib.hid h
  have hi : i < ks.length := (List.getElem?_eq_some_iff.1 hk).1
  obtain ⟨A, c, vs, h1, h2, h3, h4⟩ := h
  obtain ⟨v, hv⟩ : ∃ v, vs[i]? = some v := ⟨_, List.getElem?_eq_getElem (by omega)⟩
  obtain ⟨hov, hbl⟩ := h4 i v k hv hk
  obtain ⟨Av, cv, rfl⟩ := own_slice hov
  obtain ⟨g, cap, hA⟩ : ∃ g cap, Value.slice A ks.length c = .slice (some ⟨g, 0, none⟩) ks.length cap := by
    rcases h2.2 with ⟨_, h'⟩ | ⟨g', cap', cur, h', _⟩
    · omega
    · exact ⟨g', cap', h'⟩
  cases hA
  have hcap : ks.length ≤ c ∧ c ≤ maxLen := by
    rcases h2.2 with ⟨h', _⟩ | ⟨g', cap', cur, h', _, _, h9, h10, _⟩
    · cases h'
    · cases h'
      exact ⟨h9, h10⟩
  unfold maxLen at hcap
  have hone : ∀ u ∈ pksC vs ks, u.oneCell' = true := pksC_one vs ks (fun v' hv' => by
    obtain ⟨j, hj⟩ := List.getElem?_of_mem hv'
    have hj2 := (List.getElem?_eq_some_iff.1 hj).1
    exact (h4 j v' ks[j] hj (List.getElem?_eq_getElem (by omega))).1.one)
  have hxl := pksC_len vs ks h3
  have x1 : w.cell? ⟨p, 1, none⟩ = some (.slice (some ⟨g, 0, none⟩) ks.length c) := by rw [block_cell h1]; rfl
  have y0 : w.cell? ⟨g, i * 3, none⟩ = some (.slice Av k.b.length cv) := by rw [h2.cellAt _ (by omega)]; exact (pksC_get vs ks i _ k hv hk).1
  have y1 : w.cell? ⟨g, i * 3 + 1, none⟩ = some (.int .i64 k.site) := by rw [h2.cellAt _ (by omega)]; exact (pksC_get vs ks i _ k hv hk).2.1
  have y2 : w.cell? ⟨g, i * 3 + 2, none⟩ = some (.int .i64 k.waits) := by rw [h2.cellAt _ (by omega)]; exact (pksC_get vs ks i _ k hv hk).2.2
  have hRow := Lib.hid (RowAt.of_own h2 rfl)
  have hP := Lib.hid (And.intro h1 (And.intro h2 (And.intro h3 h4)))
  have hV := Lib.hid hv
  have hK := Lib.hid hk
  have hOV := Lib.hid hov
  have hone' := Lib.hid hone
  have hXL := Lib.hid hxl
  have hel : (ks.eraseIdx i).length = ks.length - 1 := List.length_eraseIdx_of_lt hi
  have hEL := Lib.hid hel
  clear h2 h3 h4 hv hk hov hone hxl hel
  have hBz := Lib.hid (below_alloc (Below.refl _ w) (.cells #[.slice none 0 0, .int .i64 0, .int .i64 0] 97))
  have hBp := Lib.hid (below_alloc hBz.out (.cells #[.slice Av k.b.length cv, .int .i64 k.site, .int .i64 k.waits] 97))
  have hbr := Lib.hid (block_below (below_alloc (Below.refl _ (w.alloc (.cells #[.slice none 0 0, .int .i64 0, .int .i64 0] 97))) (.cells #[.slice Av k.b.length cv, .int .i64 k.site, .int .i64 k.waits] 97)) (heap_alloc_new w (.cells #[.slice none 0 0, .int .i64 0, .int .i64 0] 97)))
  have hbt := Lib.hid (heap_alloc_new (w.alloc (.cells #[.slice none 0 0, .int .i64 0, .int .i64 0] 97)) (.cells #[.slice Av k.b.length cv, .int .i64 k.site, .int .i64 k.waits] 97))
  rw [World.size_alloc] at hbt
  have hxt : (((pksC vs ks).take (i * 3)).length = i * 3) := by rw [List.length_take, hXL.out]; omega
  have hxd : (((pksC vs ks).drop (i * 3 + 3)).length = (ks.length - (i + 1)) * 3) := by rw [List.length_drop, hXL.out]; omega
  have hXT := Lib.hid hxt
  have hXD := Lib.hid hxd
  clear hxt hxd
  generalize k.site = ksite at *
  generalize k.waits = kwaits at *
  generalize hkbl : k.b.length = kbl at *
  have hKB := Lib.hid hkbl
  clear hkbl
  have i1 : (i : Int) < ks.length := by omega
  have i2 : (i : Int) ≤ c := by omega
  have i3 : ((i : Int) + 1) ≤ c := by omega
  have i4 : ((i : Int) + 1) ≤ ks.length := by omega
  have i5 : IntKind.i64.wrap ((i : Int) + 1) = (i : Int) + 1 := by rw [IntKind.wrap_i64]; omega
  have i6 : ((i : Int) + 1).toNat = i + 1 := by omega
  have x1a := cell_below hBz.out x1
  have y0a := cell_below hBz.out y0
  have y1a := cell_below hBz.out y1
  have y2a := cell_below hBz.out y2
  have x1b := cell_below hBp.out x1
  clear x1 y0 y1 y2
  go_enter Tryz.func81, Tryz.ntmps81
  go_wp2_with (at_builtin; refine list_of_wp rfl ?_; refine wp_append_row (.tmp 14) (.tmp 20) 57 rfl w.heap.size 97 _ 3 40 Tryz.underlying57 Tryz.infoRPk rfl (by decide) (by decide) (.slice none 0 0) 0 [] rfl (own_nil _ _ _ _) (some ⟨g, 0, none⟩) i c ((pksC vs ks).take (i * 3)) rfl (fun h => by cases h) (by omega) hXT.out ((hRow.out.below hBp.out).take _) (fun u hu => hone'.out u (List.mem_of_mem_take hu)) (by omega) hBp.out.size ?_)
  intro v3 w3 hO3_ hg3_ hv3_
  obtain ⟨A3, c3, rfl⟩ := own_slice hO3_
  have hO3 := Lib.hid hO3_
  have hB3 := Lib.hid (hBp.out.grown hg3_ hBp.out.size (fun j hj => by simp [Value.ownBlock] at hj))
  have hA3 : Hid (Below ((w.alloc (.cells #[.slice none 0 0, .int .i64 0, .int .i64 0] 97)).alloc (.cells #[.slice Av kbl cv, .int .i64 ksite, .int .i64 kwaits] 97)).heap.size ((w.alloc (.cells #[.slice none 0 0, .int .i64 0, .int .i64 0] 97)).alloc (.cells #[.slice Av kbl cv, .int .i64 ksite, .int .i64 kwaits] 97)) w3) := Lib.hid ((Below.refl _ _).grown hg3_ (Nat.le_refl _) (fun j hj => by simp [Value.ownBlock] at hj))
  have x1c := cell_below hA3.out x1b
  have hbr3 := Lib.hid (block_below hA3.out hbr.out)
  have hbt3 := Lib.hid (block_below hA3.out hbt.out)
  have hn3 : Hid ((Value.slice A3 i c3).ownBlock = (Value.slice none 0 0).ownBlock ∨ (Value.slice A3 i c3).ownBlock = some (w.heap.size + 2)) := Lib.hid (by
    exact hv3_)
  clear hO3_ hg3_ hv3_ x1a y0a y1a y2a x1b hA3 hbr hbt hBz
  have hPE : (pksC vs ks).take (i * 3) ++ (pksC vs ks).drop (i * 3 + 3) = pksC (vs.eraseIdx i) (ks.eraseIdx i) := pksC_erase vs ks i hP.out.2.2.1 hi
  have hPEH := Lib.hid hPE
  have hpw : Hid (p < w.heap.size) := Lib.hid hN.out.lt
  clear hPE
  by_cases hc : c = i + 1
  · subst hc
    have hkn : ks.length = i + 1 := by omega
    have hdn : (pksC vs ks).drop (i * 3 + 3) = [] := List.eq_nil_of_length_eq_zero (by rw [hXD.out]; omega)
    have hXD2 : Hid (((pksC vs ks).drop (i * 3 + 3)).length = 0 * 3) := Lib.hid (by rw [hdn]; rfl)
    have hSR : Hid (RowAt w3 (some ⟨g, 0, none⟩) ((pksC vs ks).drop (i * 3 + 3))) := Lib.hid (by rw [hdn]; exact RowAt.nil _ _)
    have hLN : Hid (i = (ks.eraseIdx i).length) := Lib.hid (by have := hEL.out; omega)
    clear hdn
    go_wp2_with (at_builtin; refine list_of_wp rfl ?_; refine wp_append_row (.tmp 23) (.tmp 30) 57 rfl w.heap.size 97 _ 3 40 Tryz.underlying57 Tryz.infoRPk rfl (by decide) (by decide) (.slice A3 i c3) i _ rfl hO3.out (some ⟨g, 0, none⟩) 0 0 ((pksC vs ks).drop (i * 3 + 3)) rfl (fun h => by cases h) (by omega) hXD2.out hSR.out (fun u hu => hone'.out u (List.mem_of_mem_drop hu)) (by omega) hB3.out.size ?_)
    intro v4 w4 hO4_ hg4_ hv4_
    rw [hPEH.out] at hO4_
    have hO4c : w4.ownsRow w.heap.size 97 3 v4 (ks.eraseIdx i).length (pksC (vs.eraseIdx i) (ks.eraseIdx i)) := cast (congrArg (fun n => w4.ownsRow w.heap.size 97 3 v4 n (pksC (vs.eraseIdx i) (ks.eraseIdx i))) hLN.out) hO4_
    obtain ⟨A4, c4, rfl⟩ := own_slice hO4c
    have hO4 := Lib.hid hO4c
    clear hO4c
    have hB4 := Lib.hid (hB3.out.grown hg4_ hB3.out.size (own_ge hO3.out))
    have hbr4 := Lib.hid ((hg4_.block _ (lt_of_block hbr3.out) (fun e => by rcases hn3.out with h9 | h9; exact absurd (e.trans h9) (by simp [Value.ownBlock]); rw [h9] at e; simp at e)).trans hbr3.out)
    have hbt4 := Lib.hid ((hg4_.block _ (lt_of_block hbt3.out) (fun e => by rcases hn3.out with h9 | h9; exact absurd (e.trans h9) (by simp [Value.ownBlock]); rw [h9] at e; simp at e)).trans hbt3.out)
    have hp4 : w4.heap[p]? = some (.cells #[.int .i64 most, .slice (some ⟨g, 0, none⟩) ks.length (i + 1), .bool false, .bool cz.c1, .bool cz.c2, .bool cz.c3] 60 (0, 0)) := block_below hB4.out hP.out.1
    have f1 : w4.frozen? ⟨p, 1, none⟩ = false := block_free hp4 1
    have x1d : w4.cell? ⟨p, 1, none⟩ = some (.slice (some ⟨g, 0, none⟩) ks.length (i + 1)) := by rw [block_cell hp4]; rfl
    have hn4 : Hid (∀ q, (Value.slice A4 (ks.eraseIdx i).length c4).ownBlock = some q → q ≠ w.heap.size) := Lib.hid (fun q hq => by
      rcases hv4_ with h9 | h9
      · rw [h9] at hq
        rcases hn3.out with h8 | h8
        · rw [h8] at hq; simp [Value.ownBlock] at hq
        · rw [h8] at hq; simp at hq; omega
      · rw [h9] at hq; simp at hq; have := hB3.out.size; have := hbr3.out; have := lt_of_block this; omega)
    have hfin3 := Lib.hid (fun W hK => RefAt.turned3 (W := W) (ks2 := ks.eraseIdx i) (vs2 := vs.eraseIdx i) hP.out.1 hB4.out (own_lower hO4.out (Nat.zero_le _)) (by have h9 := hP.out.2.2.1; rw [hEL.out, List.length_eraseIdx_of_lt (by omega)]; omega) (fun j v' k' hv' hk' => by
      obtain ⟨j', e1, e2⟩ := erase_at _ _ _ _ _ _ hv' hk'
      exact ⟨(hP.out.2.2.2 j' v' k' e1 e2).1.below hB4.out, (hP.out.2.2.2 j' v' k' e1 e2).2⟩) w.heap.size (by have := hpw.out; omega) hK hn4.out ⟨_, _, hbr4.out⟩)
    have hfin := Lib.hid (RefAt.turned (ks2 := ks.eraseIdx i) (vs2 := vs.eraseIdx i) hP.out.1 hB4.out (own_lower hO4.out (Nat.zero_le _)) (by have h9 := hP.out.2.2.1; rw [hEL.out, List.length_eraseIdx_of_lt (by omega)]; omega) (fun j v' k' hv' hk' => by
      obtain ⟨j', e1, e2⟩ := erase_at _ _ _ _ _ _ hv' hk'
      exact ⟨(hP.out.2.2.2 j' v' k' e1 e2).1.below hB4.out, (hP.out.2.2.2 j' v' k' e1 e2).2⟩))
    have hbr5 := Lib.hid ((Below.heap_setCell w4 ⟨p, 1, none⟩ (.slice A4 (ks.eraseIdx i).length c4) w.heap.size (by show w.heap.size ≠ p; have := hpw.out; omega)).trans hbr4.out)
    have hbt5 := Lib.hid ((Below.heap_setCell w4 ⟨p, 1, none⟩ (.slice A4 (ks.eraseIdx i).length c4) (w.heap.size + 1) (by show w.heap.size + 1 ≠ p; have := hpw.out; omega)).trans hbt4.out)
    have hO5 := Lib.hid (own_move (w1 := w4.setCell ⟨p, 1, none⟩ (.slice A4 (ks.eraseIdx i).length c4)) (hOV.out.below hB4.out) (fun q hq => Below.heap_setCell _ _ _ _ (by
      rintro rfl
      obtain ⟨cur, e⟩ := own_type (hOV.out.below hB4.out) hq
      rw [hp4] at e
      simp at e)))
    clear hp4
    have tt0 : (w4.setCell ⟨p, 1, none⟩ (.slice A4 (ks.eraseIdx i).length c4)).cell? ⟨w.heap.size + 1, 0, none⟩ = some (.slice Av kbl cv) := by rw [block_cell hbt5.out]; rfl
    have rr0 : (w4.setCell ⟨p, 1, none⟩ (.slice A4 (ks.eraseIdx i).length c4)).cell? ⟨w.heap.size, 0, none⟩ = some (.slice none 0 0) := by rw [block_cell hbr5.out]; rfl
    have rf0 : (w4.setCell ⟨p, 1, none⟩ (.slice A4 (ks.eraseIdx i).length c4)).frozen? ⟨w.heap.size, 0, none⟩ = false := block_free hbr5.out 0
    have tt1 : (w4.setCell ⟨p, 1, none⟩ (.slice A4 (ks.eraseIdx i).length c4)).cell? ⟨w.heap.size + 1, 1, none⟩ = some (.int .i64 ksite) := by rw [block_cell hbt5.out]; rfl
    have rr1 : (w4.setCell ⟨p, 1, none⟩ (.slice A4 (ks.eraseIdx i).length c4)).cell? ⟨w.heap.size, 1, none⟩ = some (.int .i64 0) := by rw [block_cell hbr5.out]; rfl
    have rf1 : (w4.setCell ⟨p, 1, none⟩ (.slice A4 (ks.eraseIdx i).length c4)).frozen? ⟨w.heap.size, 1, none⟩ = false := block_free hbr5.out 1
    have tt2 : (w4.setCell ⟨p, 1, none⟩ (.slice A4 (ks.eraseIdx i).length c4)).cell? ⟨w.heap.size + 1, 2, none⟩ = some (.int .i64 kwaits) := by rw [block_cell hbt5.out]; rfl
    have rr2 : (w4.setCell ⟨p, 1, none⟩ (.slice A4 (ks.eraseIdx i).length c4)).cell? ⟨w.heap.size, 2, none⟩ = some (.int .i64 0) := by rw [block_cell hbr5.out]; rfl
    have rf2 : (w4.setCell ⟨p, 1, none⟩ (.slice A4 (ks.eraseIdx i).length c4)).frozen? ⟨w.heap.size, 2, none⟩ = false := block_free hbr5.out 2
    go_wp2_with fail
    clear tt0 tt1 tt2 rr0 rr1 rr2 rf0 rf1 rf2
    generalize w4.setCell ⟨p, 1, none⟩ (.slice A4 (ks.eraseIdx i).length c4) = w5 at *
    have hKz : Hid (Kept (· = w.heap.size) w5 (((w5.setCell ⟨w.heap.size, 0, none⟩ (.slice Av kbl cv)).setCell ⟨w.heap.size, 1, none⟩ (.int .i64 ksite)).setCell ⟨w.heap.size, 2, none⟩ (.int .i64 kwaits))) := Lib.hid (Kept.setCell (S := (· = w.heap.size)) (p := ⟨w.heap.size, 2, none⟩) (Kept.setCell (S := (· = w.heap.size)) (p := ⟨w.heap.size, 1, none⟩) (Kept.setCell (S := (· = w.heap.size)) (p := ⟨w.heap.size, 0, none⟩) (Kept.refl (· = w.heap.size) w5) (.inl rfl) (.slice Av kbl cv)) (.inl rfl) (.int .i64 ksite)) (.inl rfl) (.int .i64 kwaits))
    have hz0 : (w5.setCell ⟨w.heap.size, 0, none⟩ (.slice Av kbl cv)).heap[w.heap.size]? = some (.cells #[.slice Av kbl cv, .int .i64 0, .int .i64 0] 97 (0, 0)) := block_setCell hbr5.out 0 _
    generalize w5.setCell ⟨w.heap.size, 0, none⟩ (.slice Av kbl cv) = WZ0 at *
    have hz1 : (WZ0.setCell ⟨w.heap.size, 1, none⟩ (.int .i64 ksite)).heap[w.heap.size]? = some (.cells #[.slice Av kbl cv, .int .i64 ksite, .int .i64 0] 97 (0, 0)) := block_setCell hz0 1 _
    generalize WZ0.setCell ⟨w.heap.size, 1, none⟩ (.int .i64 ksite) = WZ1 at *
    have hz2 : (WZ1.setCell ⟨w.heap.size, 2, none⟩ (.int .i64 kwaits)).heap[w.heap.size]? = some (.cells #[.slice Av kbl cv, .int .i64 ksite, .int .i64 kwaits] 97 (0, 0)) := block_setCell hz1 2 _
    generalize WZ1.setCell ⟨w.heap.size, 2, none⟩ (.int .i64 kwaits) = WZ2 at *
    have zc0 : WZ2.cell? ⟨w.heap.size, 0, none⟩ = some (.slice Av kbl cv) := by rw [block_cell hz2]; rfl
    have zc1 : WZ2.cell? ⟨w.heap.size, 1, none⟩ = some (.int .i64 ksite) := by rw [block_cell hz2]; rfl
    have zc2 : WZ2.cell? ⟨w.heap.size, 2, none⟩ = some (.int .i64 kwaits) := by rw [block_cell hz2]; rfl
    have hTy : Hid (∀ q cur T fr, q = w.heap.size → w5.heap[q]? = some (.cells cur T fr) → T = 97) := Lib.hid (by
      rintro q cur T fr rfl hq
      rw [hbr5.out] at hq
      simp only [Option.some.injEq, Obj.cells.injEq] at hq
      exact hq.2.1.symm)
    clear hz0 hz1 hz2
    go_wp2_with fail
    refine bodyPost_ret (v := .agg #[.slice Av kbl cv, .int .i64 ksite, .int .i64 kwaits]) ?_ rfl ⟨Av, cv, rfl, ?_, ?_, ?_⟩
    · simp [results, Tryz.results81, go_sem, *]
    · refine own_move hO5.out fun q hq => hKz.out.block q ?_ ?_
      · obtain ⟨cur, e⟩ := own_type hO5.out hq
        exact lt_of_block e
      · intro e9
        obtain ⟨cur, e⟩ := own_type hO5.out hq
        have := hTy.out q _ _ _ e9 e
        simp at this
    · exact hfin3.out _ hKz.out
    · exact hfin.out.2.trans hKz.out (by rintro q hq rfl; omega)
  · have hXD2 := hXD
    have hSR : Hid (RowAt w3 (some ⟨g, (i + 1) * 3, none⟩) ((pksC vs ks).drop (i * 3 + 3))) := Lib.hid (by
      have h9 := ((hRow.out.below hB3.out).drop (i * 3 + 3))
      rw [add_plain] at h9
      rw [show (i + 1) * 3 = i * 3 + 3 by omega]
      exact h9)
    have hLN : Hid (i + (ks.length - (i + 1)) = (ks.eraseIdx i).length) := Lib.hid (by have := hEL.out; omega)
    go_wp2_with (at_builtin; refine list_of_wp rfl ?_; refine wp_append_row (.tmp 23) (.tmp 30) 57 rfl w.heap.size 97 _ 3 40 Tryz.underlying57 Tryz.infoRPk rfl (by decide) (by decide) (.slice A3 i c3) i _ rfl hO3.out (some ⟨g, (i + 1) * 3, none⟩) (ks.length - (i + 1)) (c - (i + 1)) ((pksC vs ks).drop (i * 3 + 3)) rfl (fun h => by cases h) (by omega) hXD2.out hSR.out (fun u hu => hone'.out u (List.mem_of_mem_drop hu)) (by omega) hB3.out.size ?_)
    intro v4 w4 hO4_ hg4_ hv4_
    rw [hPEH.out] at hO4_
    have hO4c : w4.ownsRow w.heap.size 97 3 v4 (ks.eraseIdx i).length (pksC (vs.eraseIdx i) (ks.eraseIdx i)) := cast (congrArg (fun n => w4.ownsRow w.heap.size 97 3 v4 n (pksC (vs.eraseIdx i) (ks.eraseIdx i))) hLN.out) hO4_
    obtain ⟨A4, c4, rfl⟩ := own_slice hO4c
    have hO4 := Lib.hid hO4c
    clear hO4c
    have hB4 := Lib.hid (hB3.out.grown hg4_ hB3.out.size (own_ge hO3.out))
    have hbr4 := Lib.hid ((hg4_.block _ (lt_of_block hbr3.out) (fun e => by rcases hn3.out with h9 | h9; exact absurd (e.trans h9) (by simp [Value.ownBlock]); rw [h9] at e; simp at e)).trans hbr3.out)
    have hbt4 := Lib.hid ((hg4_.block _ (lt_of_block hbt3.out) (fun e => by rcases hn3.out with h9 | h9; exact absurd (e.trans h9) (by simp [Value.ownBlock]); rw [h9] at e; simp at e)).trans hbt3.out)
    have hp4 : w4.heap[p]? = some (.cells #[.int .i64 most, .slice (some ⟨g, 0, none⟩) ks.length c, .bool false, .bool cz.c1, .bool cz.c2, .bool cz.c3] 60 (0, 0)) := block_below hB4.out hP.out.1
    have f1 : w4.frozen? ⟨p, 1, none⟩ = false := block_free hp4 1
    have x1d : w4.cell? ⟨p, 1, none⟩ = some (.slice (some ⟨g, 0, none⟩) ks.length c) := by rw [block_cell hp4]; rfl
    have hn4 : Hid (∀ q, (Value.slice A4 (ks.eraseIdx i).length c4).ownBlock = some q → q ≠ w.heap.size) := Lib.hid (fun q hq => by
      rcases hv4_ with h9 | h9
      · rw [h9] at hq
        rcases hn3.out with h8 | h8
        · rw [h8] at hq; simp [Value.ownBlock] at hq
        · rw [h8] at hq; simp at hq; omega
      · rw [h9] at hq; simp at hq; have := hB3.out.size; have := hbr3.out; have := lt_of_block this; omega)
    have hfin3 := Lib.hid (fun W hK => RefAt.turned3 (W := W) (ks2 := ks.eraseIdx i) (vs2 := vs.eraseIdx i) hP.out.1 hB4.out (own_lower hO4.out (Nat.zero_le _)) (by have h9 := hP.out.2.2.1; rw [hEL.out, List.length_eraseIdx_of_lt (by omega)]; omega) (fun j v' k' hv' hk' => by
      obtain ⟨j', e1, e2⟩ := erase_at _ _ _ _ _ _ hv' hk'
      exact ⟨(hP.out.2.2.2 j' v' k' e1 e2).1.below hB4.out, (hP.out.2.2.2 j' v' k' e1 e2).2⟩) w.heap.size (by have := hpw.out; omega) hK hn4.out ⟨_, _, hbr4.out⟩)
    have hfin := Lib.hid (RefAt.turned (ks2 := ks.eraseIdx i) (vs2 := vs.eraseIdx i) hP.out.1 hB4.out (own_lower hO4.out (Nat.zero_le _)) (by have h9 := hP.out.2.2.1; rw [hEL.out, List.length_eraseIdx_of_lt (by omega)]; omega) (fun j v' k' hv' hk' => by
      obtain ⟨j', e1, e2⟩ := erase_at _ _ _ _ _ _ hv' hk'
      exact ⟨(hP.out.2.2.2 j' v' k' e1 e2).1.below hB4.out, (hP.out.2.2.2 j' v' k' e1 e2).2⟩))
    have hbr5 := Lib.hid ((Below.heap_setCell w4 ⟨p, 1, none⟩ (.slice A4 (ks.eraseIdx i).length c4) w.heap.size (by show w.heap.size ≠ p; have := hpw.out; omega)).trans hbr4.out)
    have hbt5 := Lib.hid ((Below.heap_setCell w4 ⟨p, 1, none⟩ (.slice A4 (ks.eraseIdx i).length c4) (w.heap.size + 1) (by show w.heap.size + 1 ≠ p; have := hpw.out; omega)).trans hbt4.out)
    have hO5 := Lib.hid (own_move (w1 := w4.setCell ⟨p, 1, none⟩ (.slice A4 (ks.eraseIdx i).length c4)) (hOV.out.below hB4.out) (fun q hq => Below.heap_setCell _ _ _ _ (by
      rintro rfl
      obtain ⟨cur, e⟩ := own_type (hOV.out.below hB4.out) hq
      rw [hp4] at e
      simp at e)))
    clear hp4
    have tt0 : (w4.setCell ⟨p, 1, none⟩ (.slice A4 (ks.eraseIdx i).length c4)).cell? ⟨w.heap.size + 1, 0, none⟩ = some (.slice Av kbl cv) := by rw [block_cell hbt5.out]; rfl
    have rr0 : (w4.setCell ⟨p, 1, none⟩ (.slice A4 (ks.eraseIdx i).length c4)).cell? ⟨w.heap.size, 0, none⟩ = some (.slice none 0 0) := by rw [block_cell hbr5.out]; rfl
    have rf0 : (w4.setCell ⟨p, 1, none⟩ (.slice A4 (ks.eraseIdx i).length c4)).frozen? ⟨w.heap.size, 0, none⟩ = false := block_free hbr5.out 0
    have tt1 : (w4.setCell ⟨p, 1, none⟩ (.slice A4 (ks.eraseIdx i).length c4)).cell? ⟨w.heap.size + 1, 1, none⟩ = some (.int .i64 ksite) := by rw [block_cell hbt5.out]; rfl
    have rr1 : (w4.setCell ⟨p, 1, none⟩ (.slice A4 (ks.eraseIdx i).length c4)).cell? ⟨w.heap.size, 1, none⟩ = some (.int .i64 0) := by rw [block_cell hbr5.out]; rfl
    have rf1 : (w4.setCell ⟨p, 1, none⟩ (.slice A4 (ks.eraseIdx i).length c4)).frozen? ⟨w.heap.size, 1, none⟩ = false := block_free hbr5.out 1
    have tt2 : (w4.setCell ⟨p, 1, none⟩ (.slice A4 (ks.eraseIdx i).length c4)).cell? ⟨w.heap.size + 1, 2, none⟩ = some (.int .i64 kwaits) := by rw [block_cell hbt5.out]; rfl
    have rr2 : (w4.setCell ⟨p, 1, none⟩ (.slice A4 (ks.eraseIdx i).length c4)).cell? ⟨w.heap.size, 2, none⟩ = some (.int .i64 0) := by rw [block_cell hbr5.out]; rfl
    have rf2 : (w4.setCell ⟨p, 1, none⟩ (.slice A4 (ks.eraseIdx i).length c4)).frozen? ⟨w.heap.size, 2, none⟩ = false := block_free hbr5.out 2
    go_wp2_with fail
    clear tt0 tt1 tt2 rr0 rr1 rr2 rf0 rf1 rf2
    generalize w4.setCell ⟨p, 1, none⟩ (.slice A4 (ks.eraseIdx i).length c4) = w5 at *
    have hKz : Hid (Kept (· = w.heap.size) w5 (((w5.setCell ⟨w.heap.size, 0, none⟩ (.slice Av kbl cv)).setCell ⟨w.heap.size, 1, none⟩ (.int .i64 ksite)).setCell ⟨w.heap.size, 2, none⟩ (.int .i64 kwaits))) := Lib.hid (Kept.setCell (S := (· = w.heap.size)) (p := ⟨w.heap.size, 2, none⟩) (Kept.setCell (S := (· = w.heap.size)) (p := ⟨w.heap.size, 1, none⟩) (Kept.setCell (S := (· = w.heap.size)) (p := ⟨w.heap.size, 0, none⟩) (Kept.refl (· = w.heap.size) w5) (.inl rfl) (.slice Av kbl cv)) (.inl rfl) (.int .i64 ksite)) (.inl rfl) (.int .i64 kwaits))
    have hz0 : (w5.setCell ⟨w.heap.size, 0, none⟩ (.slice Av kbl cv)).heap[w.heap.size]? = some (.cells #[.slice Av kbl cv, .int .i64 0, .int .i64 0] 97 (0, 0)) := block_setCell hbr5.out 0 _
    generalize w5.setCell ⟨w.heap.size, 0, none⟩ (.slice Av kbl cv) = WZ0 at *
    have hz1 : (WZ0.setCell ⟨w.heap.size, 1, none⟩ (.int .i64 ksite)).heap[w.heap.size]? = some (.cells #[.slice Av kbl cv, .int .i64 ksite, .int .i64 0] 97 (0, 0)) := block_setCell hz0 1 _
    generalize WZ0.setCell ⟨w.heap.size, 1, none⟩ (.int .i64 ksite) = WZ1 at *
    have hz2 : (WZ1.setCell ⟨w.heap.size, 2, none⟩ (.int .i64 kwaits)).heap[w.heap.size]? = some (.cells #[.slice Av kbl cv, .int .i64 ksite, .int .i64 kwaits] 97 (0, 0)) := block_setCell hz1 2 _
    generalize WZ1.setCell ⟨w.heap.size, 2, none⟩ (.int .i64 kwaits) = WZ2 at *
    have zc0 : WZ2.cell? ⟨w.heap.size, 0, none⟩ = some (.slice Av kbl cv) := by rw [block_cell hz2]; rfl
    have zc1 : WZ2.cell? ⟨w.heap.size, 1, none⟩ = some (.int .i64 ksite) := by rw [block_cell hz2]; rfl
    have zc2 : WZ2.cell? ⟨w.heap.size, 2, none⟩ = some (.int .i64 kwaits) := by rw [block_cell hz2]; rfl
    have hTy : Hid (∀ q cur T fr, q = w.heap.size → w5.heap[q]? = some (.cells cur T fr) → T = 97) := Lib.hid (by
      rintro q cur T fr rfl hq
      rw [hbr5.out] at hq
      simp only [Option.some.injEq, Obj.cells.injEq] at hq
      exact hq.2.1.symm)
    clear hz0 hz1 hz2
    go_wp2_with fail
    refine bodyPost_ret (v := .agg #[.slice Av kbl cv, .int .i64 ksite, .int .i64 kwaits]) ?_ rfl ⟨Av, cv, rfl, ?_, ?_, ?_⟩
    · simp [results, Tryz.results81, go_sem, *]
    · refine own_move hO5.out fun q hq => hKz.out.block q ?_ ?_
      · obtain ⟨cur, e⟩ := own_type hO5.out hq
        exact lt_of_block e
      · intro e9
        obtain ⟨cur, e⟩ := own_type hO5.out hq
        have := hTy.out q _ _ _ e9 e
        simp at this
    · exact hfin3.out _ hKz.out
    · exact hfin.out.2.trans hKz.out (by rintro q hq rfl; omega)
end Go.Proofs.YteeiacfddjhhkaaGreatDoor
namespace Go.Proofs.YteeiacfddjhhkaaGreatDoor
open Go.RowKit
set_option maxRecDepth 100000
variable {cz : Cuts}
theorem slice_lo {w : World} {n c i b : Nat} {A : Option Addr} {xs : List Value} (h : w.ownsRow b 97 3 (.slice A n c) n xs) (hi : i ≤ n) :
    ∃ A2 c2, (∀ W, (Instr.slice 57 (.slice A n c) none (some (.int .i64 i)) none).run Tryz.prog W = .ok (.slice A2 i c2) W) ∧ RowAt w A2 (xs.take (i * 3)) ∧ (A2 = none → c2 = 0) ∧ i ≤ c2 := by
  have hc : n ≤ c ∧ (A = none → c = 0) := by
    rcases h.2 with ⟨h', _⟩ | ⟨g', cap', cur, h', _, _, h9, h10, _⟩
    · cases h'; exact ⟨by omega, fun _ => rfl⟩
    · cases h'
      exact ⟨h9, fun h => by cases h⟩
  refine ⟨if c = 0 then A else A.map (·.add (0 * 3)), c, fun W => ?_, ?_, ?_, by omega⟩
  · rw [run_slice_h W 57 A n c Tryz.underlying57 .i64 i (by omega) (by omega)]
    simp [sliced, sizeOf, go_sem, Result.andThen, Program.elem, Tryz.underlying57, Tryz.infoRPk]
  · have : (if c = 0 then A else A.map (·.add (0 * 3))) = A := by
      cases A with
      | none => simp
      | some a => simp [add_plain, Addr.add]
    rw [this]
    exact (RowAt.of_own h rfl).take _
  · intro h9
    apply hc.2
    cases A with
    | none => rfl
    | some a => split at h9 <;> simp at h9
theorem slice_hi {w : World} {n c i b : Nat} {A : Option Addr} {xs : List Value} (h : w.ownsRow b 97 3 (.slice A n c) n xs) (hi : i ≤ n) (hxl : xs.length = n * 3) :
    ∃ A2 c2, (∀ W, (Instr.slice 57 (.slice A n c) (some (.int .i64 i)) none none).run Tryz.prog W = .ok (.slice A2 (n - i) c2) W) ∧ (∀ W, Below w.heap.size w W → RowAt W A2 (xs.drop (i * 3))) ∧ (A2 = none → c2 = 0) ∧ n - i ≤ c2 := by
  have hc : n ≤ c ∧ (A = none → c = 0) := by
    rcases h.2 with ⟨h', _⟩ | ⟨g', cap', cur, h', _, _, h9, h10, _⟩
    · cases h'; exact ⟨by omega, fun _ => rfl⟩
    · cases h'
      exact ⟨h9, fun h => by cases h⟩
  refine ⟨if c = i then A else A.map (·.add (i * 3)), c - i, fun W => ?_, fun W hW => ?_, ?_, by omega⟩
  · rw [run_slice_l W 57 A n c Tryz.underlying57 .i64 i (by omega) (by omega)]
    simp [sliced, sizeOf, go_sem, Result.andThen, Program.elem, Tryz.underlying57, Tryz.infoRPk]
    rfl
  · by_cases hci : c = i
    · rw [List.drop_eq_nil_of_le (by omega)]
      exact RowAt.nil _ _
    · rw [if_neg hci]
      cases A with
      | none => have := hc.2 rfl; omega
      | some a => exact ((RowAt.of_own h rfl).below hW).drop (i * 3)
  · intro h9
    cases A with
    | none => have := hc.2 rfl; omega
    | some a => split at h9 <;> simp at h9
theorem ins_at {α β : Type} (vs : List α) (ks : List β) (i j : Nat) (v v0 : α) (k k0 : β) (hl : vs.length = ks.length) (hv : (vs.insertIdx i v0)[j]? = some v) (hk : (ks.insertIdx i k0)[j]? = some k) : (v = v0 ∧ k = k0) ∨ ∃ j' : Nat, vs[j']? = some v ∧ ks[j']? = some k := by
  rcases Nat.lt_trichotomy j i with hj | hj | hj
  · rw [List.getElem?_insertIdx_of_lt hj] at hv hk
    exact .inr ⟨j, hv, hk⟩
  · subst hj
    rw [List.getElem?_insertIdx_self] at hv hk
    rw [hl] at hv
    split at hv
    · cases hv
      rw [if_pos (by assumption)] at hk
      cases hk
      exact .inl ⟨rfl, rfl⟩
    · cases hv
  · rw [List.getElem?_insertIdx_of_gt hj] at hv hk
    exact .inr ⟨j - 1, hv, hk⟩
set_option maxHeartbeats 2000000 in
theorem put_any (p : Nat) (most : Int) (ks : List PK) (i : Nat) (k : PK) (Av : Option Addr) (cv kbl : Nat) (w : World) (h : RefAt cz w p most ks) (hi : i ≤ ks.length) (hl : ks.length ≤ 100000) (hkl : kbl = k.b.length) (hbl : k.b.length ≤ 100000) (hv : OB w 0 (.slice Av kbl cv) k.b) (ksite kwaits : Int) (hks : ksite = k.site) (hkw : kwaits = k.waits) :
    Calls Tryz.prog 79 #[.pointer (some ⟨p, 0, none⟩), .int .i64 i, .agg #[.slice Av kbl cv, .int .i64 ksite, .int .i64 kwaits]] w fun e w' => e = .returned (.tuple #[]) ∧ RefAt cz w' p most (ks.insertIdx i k) ∧ Kept (· = p) w w' := by
  have hN := Lib.hid h
  obtain ⟨A, c, vs, h1, h2, h3, h4⟩ := h
  have hxl := pksC_len vs ks h3
  obtain ⟨A1, c1, hs1, hr1, hz1, hm1⟩ := slice_lo h2 hi
  obtain ⟨A2, c2, hs2, hr2, hz2, hm2⟩ := slice_hi h2 hi hxl
  have hone : ∀ u ∈ pksC vs ks, u.oneCell' = true := pksC_one vs ks (fun v' hv' => by
    obtain ⟨j, hj⟩ := List.getElem?_of_mem hv'
    have hj2 := (List.getElem?_eq_some_iff.1 hj).1
    exact (h4 j v' ks[j] hj (List.getElem?_eq_getElem (by omega))).1.one)
  have hPE : (pksC vs ks).take (i * 3) ++ [.slice Av kbl cv, .int .i64 ksite, .int .i64 kwaits] ++ (pksC vs ks).drop (i * 3) = pksC (vs.insertIdx i (.slice Av kbl cv)) (ks.insertIdx i k) := by
    rw [hks, hkw]
    exact pksC_insert vs ks i _ k h3 hi
  simp only [List.append_assoc, List.cons_append, List.nil_append] at hPE
  have hPEH := Lib.hid hPE
  have x1 : w.cell? ⟨p, 1, none⟩ = some (.slice A ks.length c) := by rw [block_cell h1]; rfl
  have hpw : Hid (p < w.heap.size) := Lib.hid hN.out.lt
  have hP := Lib.hid (And.intro h1 (And.intro h2 (And.intro h3 h4)))
  have hV := Lib.hid hv
  have hone' := Lib.hid hone
  have hil : (ks.insertIdx i k).length = ks.length + 1 := List.length_insertIdx_of_le_length hi _
  have hIL := Lib.hid hil
  have hB1 := Lib.hid (below_alloc (Below.refl _ w) (.cells #[.slice Av kbl cv, .int .i64 ksite, .int .i64 kwaits] 97))
  have hbt := Lib.hid (heap_alloc_new w (.cells #[.slice Av kbl cv, .int .i64 ksite, .int .i64 kwaits] 97))
  have hxt : (((pksC vs ks).take (i * 3)).length = i * 3) := by rw [List.length_take, hxl]; omega
  have hxd : (((pksC vs ks).drop (i * 3)).length = (ks.length - i) * 3) := by rw [List.length_drop, hxl]; omega
  have hXT := Lib.hid hxt
  have hXD := Lib.hid hxd
  have hR1 := Lib.hid hr1
  have hR2 := Lib.hid hr2
  have hZ1 := Lib.hid hz1
  have hZ2 := Lib.hid hz2
  have hM1 := Lib.hid hm1
  have hM2 := Lib.hid hm2
  have hI := Lib.hid hi
  have hL := Lib.hid hl
  have hKL := Lib.hid hkl
  have hBL := Lib.hid hbl
  have hKS := Lib.hid (And.intro hks hkw)
  clear h1 h2 h3 h4 hxl hr1 hr2 hz1 hz2 hm1 hm2 hone hPE hil hxt hxd hi hv hl hkl hbl hks hkw
  have x1a := cell_below hB1.out x1
  clear x1
  go_enter Tryz.func79, Tryz.ntmps79
  go_wp2_with (at_builtin; refine list_of_wp rfl ?_; refine wp_append_row (.tmp 7) (.tmp 13) 57 rfl w.heap.size 97 _ 3 40 Tryz.underlying57 Tryz.infoRPk rfl (by decide) (by decide) (.slice none 0 0) 0 [] rfl (own_nil _ _ _ _) A1 i c1 ((pksC vs ks).take (i * 3)) rfl hZ1.out hM1.out hXT.out (hR1.out.below hB1.out) (fun u hu => hone'.out u (List.mem_of_mem_take hu)) (by have := hI.out; have := hL.out; omega) hB1.out.size ?_)
  intro v3 w3 hO3_ hg3_ hv3_
  obtain ⟨A3, c3, rfl⟩ := own_slice hO3_
  have hO3 := Lib.hid hO3_
  have hB3 := Lib.hid (hB1.out.grown hg3_ hB1.out.size (fun j hj => by simp [Value.ownBlock] at hj))
  have hA3 : Hid (Below (w.alloc (.cells #[.slice Av kbl cv, .int .i64 ksite, .int .i64 kwaits] 97)).heap.size (w.alloc (.cells #[.slice Av kbl cv, .int .i64 ksite, .int .i64 kwaits] 97)) w3) := Lib.hid ((Below.refl _ _).grown hg3_ (Nat.le_refl _) (fun j hj => by simp [Value.ownBlock] at hj))
  have hbt3_ := block_below hA3.out hbt.out
  have b0 : w3.cell? ⟨w.heap.size, 0, none⟩ = some (.slice Av kbl cv) := by rw [block_cell hbt3_]; rfl
  have b1 : w3.cell? ⟨w.heap.size, 1, none⟩ = some (.int .i64 ksite) := by rw [block_cell hbt3_]; rfl
  have b2 : w3.cell? ⟨w.heap.size, 2, none⟩ = some (.int .i64 kwaits) := by rw [block_cell hbt3_]; rfl
  have hB3a := Lib.hid (below_alloc hB3.out (.cells #[.slice Av kbl cv, .int .i64 ksite, .int .i64 kwaits] 97))
  have hr3 : Hid (RowAt (w3.alloc (.cells #[.slice Av kbl cv, .int .i64 ksite, .int .i64 kwaits] 97)) (some ⟨w3.heap.size, 0, none⟩) [.slice Av kbl cv, .int .i64 ksite, .int .i64 kwaits]) := Lib.hid (RowAt.made rfl)
  clear hO3_ hg3_ hv3_ x1a hA3 hbt3_
  go_wp2_with (at_builtin; refine list_of_wp rfl ?_; refine wp_append_row (.tmp 15) (.tmp 17) 57 rfl w.heap.size 97 _ 3 40 Tryz.underlying57 Tryz.infoRPk rfl (by decide) (by decide) (.slice A3 i c3) i _ rfl (own_below hO3.out (below_alloc (Below.refl _ w3) _)) (some ⟨w3.heap.size, 0, none⟩) 1 1 [.slice Av kbl cv, .int .i64 ksite, .int .i64 kwaits] rfl (fun h => by cases h) (by omega) rfl hr3.out (fun u hu => by simp at hu; rcases hu with rfl | rfl | rfl <;> rfl) (by have := hI.out; have := hL.out; omega) hB3a.out.size ?_)
  intro v4 w4 hO4_ hg4_ hv4_
  obtain ⟨A4, c4, rfl⟩ := own_slice hO4_
  have hO4 := Lib.hid hO4_
  have hB4 := Lib.hid (hB3a.out.grown hg4_ hB3a.out.size (own_ge hO3.out))
  have x1b : w4.cell? ⟨p, 1, none⟩ = some (.slice A ks.length c) := by rw [block_cell (block_below hB4.out hP.out.1)]; rfl
  clear hO4_ hg4_ hv4_ b0 b1 b2
  go_wp2_with (at_builtin; refine list_of_wp rfl ?_; refine wp_append_row (.tmp 20) (.tmp 26) 57 rfl w.heap.size 97 _ 3 40 Tryz.underlying57 Tryz.infoRPk rfl (by decide) (by decide) (.slice A4 (i + 1) c4) (i + 1) _ rfl hO4.out A2 (ks.length - i) c2 ((pksC vs ks).drop (i * 3)) rfl hZ2.out hM2.out hXD.out (hR2.out _ hB4.out) (fun u hu => hone'.out u (List.mem_of_mem_drop hu)) (by have := hI.out; have := hL.out; omega) hB4.out.size ?_)
  intro v5 w5 hO5_ hg5_ hv5_
  rw [hPEH.out] at hO5_
  have hO5c : w5.ownsRow w.heap.size 97 3 v5 (ks.insertIdx i k).length (pksC (vs.insertIdx i (.slice Av kbl cv)) (ks.insertIdx i k)) := cast (congrArg (fun n => w5.ownsRow w.heap.size 97 3 v5 n (pksC (vs.insertIdx i (.slice Av kbl cv)) (ks.insertIdx i k))) (show i + 1 + (ks.length - i) = (ks.insertIdx i k).length by rw [hIL.out]; have := hI.out; omega)) hO5_
  obtain ⟨A5, c5, rfl⟩ := own_slice hO5c
  have hO5 := Lib.hid hO5c
  have hB5 := Lib.hid (hB4.out.grown hg5_ hB4.out.size (own_ge hO4.out))
  have hp5 := block_below hB5.out hP.out.1
  have x1c : w5.cell? ⟨p, 1, none⟩ = some (.slice A ks.length c) := by rw [block_cell hp5]; rfl
  have f1 : w5.frozen? ⟨p, 1, none⟩ = false := block_free hp5 1
  clear hO5c hO5_ hg5_ hv5_ hp5 x1b
  have hfin := Lib.hid (RefAt.turned (ks2 := ks.insertIdx i k) (vs2 := vs.insertIdx i (.slice Av kbl cv)) hP.out.1 hB5.out (own_lower hO5.out (Nat.zero_le _)) (by rw [List.length_insertIdx_of_le_length (by rw [hP.out.2.2.1]; exact hI.out), hIL.out, hP.out.2.2.1]) (fun j v' k' hv' hk' => by
      rcases ins_at _ _ _ _ _ _ _ _ hP.out.2.2.1 hv' hk' with ⟨rfl, rfl⟩ | ⟨j', e1, e2⟩
      · exact ⟨hKL.out ▸ hV.out.below hB5.out, hBL.out⟩
      · exact ⟨(hP.out.2.2.2 j' v' k' e1 e2).1.below hB5.out, (hP.out.2.2.2 j' v' k' e1 e2).2⟩))
  go_wp2_with fail
  refine ⟨rfl, .tuple #[], ?_, rfl, hfin.out.1, hfin.out.2⟩
  simp [results, Tryz.results79, go_sem]
/-- A site is cut off, or is not. -/
def cutSet (c : Cuts) (x : Int) (b : Bool) : Cuts := ⟨if x = 1 then b else c.c1, if x = 2 then b else c.c2, if x = 3 then b else c.c3⟩
theorem RefAt.recut {w : World} {p : Nat} {most : Int} {ks : List PK} {c2 : Cuts} {o : Nat} {v : Value} (h : RefAt cz w p most ks)
    (hc : ∀ A c, (#[.int .i64 most, .slice A ks.length c, .bool false, .bool cz.c1, .bool cz.c2, .bool cz.c3] : Array Value).setIfInBounds o v = #[.int .i64 most, .slice A ks.length c, .bool false, .bool c2.c1, .bool c2.c2, .bool c2.c3]) :
    RefAt c2 (w.setCell ⟨p, o, none⟩ v) p most ks ∧ Kept (· = p) w (w.setCell ⟨p, o, none⟩ v) := by
  obtain ⟨A, c, vs, h1, h2, h3, h4⟩ := h
  have hfar : ∀ (T : TypeId) (cur : Array Value) (fr : Nat × Nat) (q : Nat), w.heap[q]? = some (.cells cur T fr) → T ≠ 60 → (w.setCell ⟨p, o, none⟩ v).heap[q]? = w.heap[q]? := fun T cur fr q hq hT => Below.heap_setCell _ _ _ _ (by
    rintro rfl
    rw [h1] at hq
    simp only [Option.some.injEq, Obj.cells.injEq] at hq
    exact hT hq.2.1.symm)
  refine ⟨⟨A, c, vs, by rw [block_setCell h1 o, hc], own_move h2 fun q hq => ?_, h3, fun i v k hv hk => ⟨own_move (h4 i v k hv hk).1 fun q hq => ?_, (h4 i v k hv hk).2⟩⟩, Kept.setCell (S := (· = p)) (p := ⟨p, o, none⟩) (Kept.refl _ _) (.inl rfl) _⟩
  · obtain ⟨cur, e⟩ := own_type h2 hq
    exact hfar _ _ _ q e (by decide)
  · obtain ⟨cur, e⟩ := own_type (h4 i v k hv hk).1 hq
    exact hfar _ _ _ q e (by decide)
theorem rpart_any (p : Nat) (most : Int) (ks : List PK) (x : Int) (off : Bool) (w : World) (h : RefAt cz w p most ks) :
    Calls Tryz.prog 52 #[.pointer (some ⟨p, 0, none⟩), .int .i64 x, .bool off] w fun e w' => e = .returned (.int .i64 (if 1 ≤ x ∧ x ≤ 3 then 0 else 2)) ∧ RefAt (if 1 ≤ x ∧ x ≤ 3 then cutSet cz x off else cz) w' p most ks ∧ Kept (· = p) w w' := by
  have hN := Lib.hid h
  obtain ⟨A, c, vs, h1, _⟩ := h
  by_cases hx : 1 ≤ x ∧ x ≤ 3
  · have hend : ∀ o : Nat, o = (2 + x).toNat → RefAt (cutSet cz x off) (w.setCell ⟨p, o, none⟩ (.bool off)) p most ks ∧ Kept (· = p) w (w.setCell ⟨p, o, none⟩ (.bool off)) := by
      rintro o rfl
      refine hN.out.recut fun A c => ?_
      rcases (show x = 1 ∨ x = 2 ∨ x = 3 by omega) with rfl | rfl | rfl <;> rfl
    have hE := Lib.hid hend
    have f3 : ∀ o, w.frozen? ⟨p, o, none⟩ = false := fun o => block_free h1 o
    have x3 : w.cell? ⟨p, 3, none⟩ = some (.bool cz.c1) := by rw [block_cell h1]; rfl
    have x4 : w.cell? ⟨p, 4, none⟩ = some (.bool cz.c2) := by rw [block_cell h1]; rfl
    have x5 : w.cell? ⟨p, 5, none⟩ = some (.bool cz.c3) := by rw [block_cell h1]; rfl
    clear hend h1
    rcases (show x = 1 ∨ x = 2 ∨ x = 3 by omega) with rfl | rfl | rfl
    all_goals
      go_enter Tryz.func52, Tryz.ntmps52
      go_wp2_with fail
      refine bodyPost_ret (v := .int .i64 0) ?_ rfl ⟨rfl, ?_, ?_⟩
      · simp [results, Tryz.results52, go_sem]
      · exact (hE.out _ rfl).1
      · exact (hE.out _ rfl).2
  · rw [if_neg hx, if_neg hx]
    clear h1
    go_enter Tryz.func52, Tryz.ntmps52
    by_cases h9 : x < 1
    · have := Lib.hid hx
      clear hx
      go_wp2_with fail
      refine bodyPost_ret (v := .int .i64 2) ?_ rfl ⟨rfl, hN.out, Kept.refl _ _⟩
      simp [results, Tryz.results52, go_sem]
    · have h8 : 3 < x := by omega
      clear hx
      go_wp2_with fail
      refine bodyPost_ret (v := .int .i64 2) ?_ rfl ⟨rfl, hN.out, Kept.refl _ _⟩
      simp [results, Tryz.results52, go_sem]
end Go.Proofs.YteeiacfddjhhkaaGreatDoor
namespace Go.Proofs.YteeiacfddjhhkaaGreatDoor
open Go.RowKit
set_option maxRecDepth 100000
variable {cz : Cuts}
theorem tickN_all (ks : List PK) : tickN ks ks.length = ks.map tickK := by simp [tickN]
set_option maxHeartbeats 2000000 in
theorem rtick_any (p : Nat) (most : Int) (ks : List PK) (w : World) (h : RefAt cz w p most ks) (hl : ks.length ≤ 100000) (hwt : ∀ k ∈ ks, 0 ≤ k.waits ∧ k.waits ≤ 1000) :
    Calls Tryz.prog 53 #[.pointer (some ⟨p, 0, none⟩)] w fun e w' => e = .returned (.tuple #[]) ∧ RefAt cz w' p most (ks.map tickK) ∧ Kept (· = p) w w' := by
  have hN := Lib.hid h
  have hpw : Hid (p < w.heap.size) := Lib.hid h.lt
  obtain ⟨A, c, vs, h1, h2, h3, h4⟩ := h
  have hxl := pksC_len vs ks h3
  have x1 : w.cell? ⟨p, 1, none⟩ = some (.slice A ks.length c) := by rw [block_cell h1]; rfl
  have hP := Lib.hid (And.intro h1 (And.intro h2 (And.intro h3 h4)))
  clear h1 h2 h3 h4 hxl
  go_enter Tryz.func53, Tryz.ntmps53
  go_wp2_with fail
  go_loopw [2, 4, 10] (fun s _ i wr => ∃ k : Nat, k ≤ ks.length ∧ i = .int .i64 k ∧ wr.ownsRow w.heap.size 97 3 s k (pksC (vs.take k) ((ks.map tickK).take k)) ∧ Below w.heap.size w wr) (fun _ _ i _ => ks.length - (intOf i).toNat)
  case atStart => exact ⟨0, by omega, rfl, own_nil _ _ _ _, Below.refl _ _⟩
  case round =>
    obtain ⟨n, hn, rfl, hO_, hB_⟩ := hrel
    obtain ⟨As, cs, rfl⟩ := own_slice hO_
    have hO := Lib.hid hO_
    have hB := Lib.hid hB_
    clear hO_ hB_
    by_cases hlt : n < ks.length
    · obtain ⟨k, hk⟩ : ∃ k, ks[n]? = some k := ⟨_, List.getElem?_eq_getElem hlt⟩
      obtain ⟨v, hv⟩ : ∃ v, vs[n]? = some v := ⟨_, List.getElem?_eq_getElem (by rw [hP.out.2.2.1]; exact hlt)⟩
      obtain ⟨hov, hbl⟩ := hP.out.2.2.2 n v k hv hk
      obtain ⟨Av, cv, rfl⟩ := own_slice hov
      obtain ⟨g, cap, hA⟩ : ∃ g cap, Value.slice A ks.length c = .slice (some ⟨g, 0, none⟩) ks.length cap := by
        rcases hP.out.2.1.2 with ⟨_, h'⟩ | ⟨g', cap', cur, h', _⟩
        · omega
        · exact ⟨g', cap', h'⟩
      cases hA
      have hown := own_below hP.out.2.1 (hB.out)
      have y0 : wr.cell? ⟨g, n * 3, none⟩ = some (.slice Av k.b.length cv) := by rw [hown.cellAt _ (by omega)]; exact (pksC_get vs ks n _ k hv hk).1
      have y1 : wr.cell? ⟨g, n * 3 + 1, none⟩ = some (.int .i64 k.site) := by rw [hown.cellAt _ (by omega)]; exact (pksC_get vs ks n _ k hv hk).2.1
      have y2 : wr.cell? ⟨g, n * 3 + 2, none⟩ = some (.int .i64 k.waits) := by rw [hown.cellAt _ (by omega)]; exact (pksC_get vs ks n _ k hv hk).2.2
      have hw := hwt k (List.mem_of_getElem? hk)
      have hEl : pksC (vs.take n) ((ks.map tickK).take n) ++ [.slice Av k.b.length cv, .int .i64 k.site, .int .i64 (max (k.waits - 1) 0)] = pksC (vs.take (n + 1)) ((ks.map tickK).take (n + 1)) := by
        rw [List.take_add_one, List.take_add_one, hv, List.getElem?_map, hk]
        exact (pksC_push (vs.take n) ((ks.map tickK).take n) _ (tickK k) (by rw [List.length_take, List.length_take, List.length_map, hP.out.2.2.1])).symm
      have hEL := Lib.hid hEl
      clear hk hv hov hbl hown hEl
      generalize k.site = ksite at *
      generalize k.waits = kw at *
      generalize k.b.length = kbl at *
      by_cases hpos : 0 < kw
      · have hmx : max (kw - 1) 0 = kw - 1 := by omega
        have hmw : IntKind.i64.wrap (kw - 1) = kw - 1 := by rw [IntKind.wrap_i64]; omega
        rw [hmx] at hEL
        clear hmx
        have hB1 := Lib.hid (below_alloc (Below.refl _ wr) (.cells #[.slice Av kbl cv, .int .i64 ksite, .int .i64 (kw - 1)] 97))
        have hB2 := Lib.hid (below_alloc (below_alloc (Below.refl _ wr) (.cells #[.slice Av kbl cv, .int .i64 ksite, .int .i64 (kw - 1)] 97)) (.cells #[.slice Av kbl cv, .int .i64 ksite, .int .i64 (kw - 1)] 97))
        have hr3 : Hid (RowAt ((wr.alloc (.cells #[.slice Av kbl cv, .int .i64 ksite, .int .i64 (kw - 1)] 97)).alloc (.cells #[.slice Av kbl cv, .int .i64 ksite, .int .i64 (kw - 1)] 97)) (some ⟨(wr.alloc (.cells #[.slice Av kbl cv, .int .i64 ksite, .int .i64 (kw - 1)] 97)).heap.size, 0, none⟩) [.slice Av kbl cv, .int .i64 ksite, .int .i64 (kw - 1)]) := Lib.hid (RowAt.made rfl)
        rw [World.size_alloc] at hr3
        go_wp2_with (at_builtin; refine list_of_wp rfl ?_; refine wp_append_row (.tmp 21) (.tmp 23) 57 rfl w.heap.size 97 _ 3 40 Tryz.underlying57 Tryz.infoRPk rfl (by decide) (by decide) (.slice As n cs) n _ rfl (own_below hO.out hB2.out) (some ⟨wr.heap.size + 1, 0, none⟩) 1 1 [.slice Av kbl cv, .int .i64 ksite, .int .i64 (kw - 1)] rfl (fun h => by cases h) (by omega) rfl hr3.out (fun u hu => by simp at hu; rcases hu with rfl | rfl | rfl <;> rfl) (by omega) (Nat.le_trans hB.out.size hB2.out.size) ?_)
        intro v4 w4 hO4_ hg4_ hv4_
        rw [hEL.out] at hO4_
        obtain ⟨A4, c4, rfl⟩ := own_slice hO4_
        have hO4 := Lib.hid hO4_
        have hB4 := Lib.hid ((below_alloc (below_alloc hB.out _) _).grown hg4_ (Nat.le_trans hB.out.size hB2.out.size) (own_ge hO.out))
        clear hO4_ hg4_ hv4_
        go_wp2_with fail
        exact ⟨⟨n + 1, by omega, by go_num, hO4.out, hB4.out⟩, by simp [intOf]; omega⟩
      · have hmx : max (kw - 1) 0 = 0 := by omega
        have hk0 : kw = 0 := by omega
        subst hk0
        rw [hmx] at hEL
        clear hmx
        have hB1 := Lib.hid (below_alloc (Below.refl _ wr) (.cells #[.slice Av kbl cv, .int .i64 ksite, .int .i64 0] 97))
        have hB2 := Lib.hid (below_alloc (below_alloc (Below.refl _ wr) (.cells #[.slice Av kbl cv, .int .i64 ksite, .int .i64 0] 97)) (.cells #[.slice Av kbl cv, .int .i64 ksite, .int .i64 0] 97))
        have hr3 : Hid (RowAt ((wr.alloc (.cells #[.slice Av kbl cv, .int .i64 ksite, .int .i64 0] 97)).alloc (.cells #[.slice Av kbl cv, .int .i64 ksite, .int .i64 0] 97)) (some ⟨(wr.alloc (.cells #[.slice Av kbl cv, .int .i64 ksite, .int .i64 0] 97)).heap.size, 0, none⟩) [.slice Av kbl cv, .int .i64 ksite, .int .i64 0]) := Lib.hid (RowAt.made rfl)
        rw [World.size_alloc] at hr3
        go_wp2_with (at_builtin; refine list_of_wp rfl ?_; refine wp_append_row (.tmp 21) (.tmp 23) 57 rfl w.heap.size 97 _ 3 40 Tryz.underlying57 Tryz.infoRPk rfl (by decide) (by decide) (.slice As n cs) n _ rfl (own_below hO.out hB2.out) (some ⟨wr.heap.size + 1, 0, none⟩) 1 1 [.slice Av kbl cv, .int .i64 ksite, .int .i64 0] rfl (fun h => by cases h) (by omega) rfl hr3.out (fun u hu => by simp at hu; rcases hu with rfl | rfl | rfl <;> rfl) (by omega) (Nat.le_trans hB.out.size hB2.out.size) ?_)
        intro v4 w4 hO4_ hg4_ hv4_
        rw [hEL.out] at hO4_
        obtain ⟨A4, c4, rfl⟩ := own_slice hO4_
        have hO4 := Lib.hid hO4_
        have hB4 := Lib.hid ((below_alloc (below_alloc hB.out _) _).grown hg4_ (Nat.le_trans hB.out.size hB2.out.size) (own_ge hO.out))
        clear hO4_ hg4_ hv4_
        go_wp2_with fail
        exact ⟨⟨n + 1, by omega, by go_num, hO4.out, hB4.out⟩, by simp [intOf]; omega⟩
    · have hnn : n = ks.length := by omega
      subst hnn
      have h3 := hP.out.2.2.1
      have hOE := hO.out
      rw [List.take_of_length_le (Nat.le_of_eq h3), List.take_of_length_le (by rw [List.length_map]; exact Nat.le_refl _)] at hOE
      have hOF : wr.ownsRow w.heap.size 97 3 (.slice As (ks.map tickK).length cs) (ks.map tickK).length (pksC vs (ks.map tickK)) := by rw [List.length_map]; exact hOE
      have hfin := Lib.hid (RefAt.turned (ks2 := ks.map tickK) (vs2 := vs) hP.out.1 hB.out (own_lower hOF (Nat.zero_le _)) (by rw [List.length_map, h3]) (fun j v' k' hv' hk' => by
        rw [List.getElem?_map, Option.map_eq_some_iff] at hk'
        obtain ⟨k0, hk0, rfl⟩ := hk'
        exact ⟨(hP.out.2.2.2 j v' k0 hv' hk0).1.below hB.out, (hP.out.2.2.2 j v' k0 hv' hk0).2⟩))
      rw [List.length_map] at hfin
      have hp5 := block_below hB.out hP.out.1
      have x1c : wr.cell? ⟨p, 1, none⟩ = some (.slice A ks.length c) := by rw [block_cell hp5]; rfl
      have f1 : wr.frozen? ⟨p, 1, none⟩ = false := block_free hp5 1
      clear hOE hOF hp5 h3
      go_wp2_with fail
      refine ⟨rfl, .tuple #[], ?_, rfl, hfin.out.1, hfin.out.2⟩
      simp [results, Tryz.results53, go_sem]
end Go.Proofs.YteeiacfddjhhkaaGreatDoor
