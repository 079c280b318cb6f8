/- slices.Insert of one packet where there is room. -/
import Derived.Test.YteeiacfddjhhkaaGreatDoorDrop
import Derived.Lib.Overlaps
import Derived.Laws.Externs
import Derived.Laws.IdiomCopy
namespace Go.Proofs.YteeiacfddjhhkaaGreatDoor
open Go.RowKit
set_option maxRecDepth 100000

theorem run_copyN {P : Program} (w : World) (dT sT ty elem : TypeId) (b o dLen dCap : Nat) (a : Addr) (sLen sCap size m : Nat) (cs : List Value)
    (hu : P.underlying dT = some (.slice elem)) (hs : (P.info? elem).map (·.size) = some size) (hm : Nat.min sLen dLen = m) (hn : cs.length = m * size)
    (hsrc : ∀ j v, cs[j]? = some v → w.cell? (a.add j) = some v) (hc : ∀ j, j < cs.length → (w.cell? ⟨b, o + j, none⟩).isSome = true) (hf : ∀ j, j < cs.length → w.frozen? ⟨b, o + j, none⟩ = false) (h1 : ∀ v ∈ cs, v.oneCell' = true) :
    (Builtin.copy_ #[dT, sT] ty #[.slice (some ⟨b, o, none⟩) dLen dCap, .slice (some a) sLen sCap]).run P w = .ok (goInt m) (w.setCells b o cs) := by
  have hl := run_loadCells_list (P := P) w a cs hsrc
  rw [hn] at hl
  have hst := run_storeCells_cells (P := P) b o cs 0 w (by simpa using hc) (by simpa using hf) h1
  cases hq : P.info? elem with
  | none => simp [hq] at hs
  | some i =>
    have hi : i.size = size := by simpa [hq] using hs
    have hm' : min sLen dLen = m := hm
    simp [Builtin.copy_, run_underlying hu, Builtin.lenOf, Builtin.firstCells, sizeOf, typeInfo, hq, hi, hm, hm', hl, hst]
/-- copy, where its run is known. -/
theorem wp_copy_run {P : Program} {w : World} {o : Oper} {a : Act} {K : Act → World → Prop} {Q : Exit → Act → World → Prop} (d s : Operand) (t t' : TypeId)
    (ho : o.op = .call { callee := .builtin .copy, args := #[d, s], argTypes := #[t, t'] }) (v u : Value) (hd : a.eval d = v) (hs : a.eval s = u) {v' : Value} {w' : World}
    (hr : (Builtin.copy_ #[t, t'] o.type #[v, u]).run P w = .ok v' w') (h : K (a.put o.dst v') w') : o.wp P a w K Q := by
  unfold Oper.wp execOp
  simp only [ho, resolve, invoke, builtin, Sem.run_bind, Sem.run_pure, Result.andThen_ok, List.map_toArray, List.map_cons, List.map_nil, hd, hs, hr]
  exact h
/-- append where there is room. -/
theorem wp_append_room {P : Program} {o : Oper} {a : Act} {w : World} {K : Act → World → Prop} {Q : Exit → Act → World → Prop}
    (s x : Operand) (t : TypeId) (hop : o.op = Op.call { callee := Callee.builtin Builtin.append, args := #[s, x], argTypes := #[t, t] })
    (e : TypeId) (i : TypeInfo) (size : Nat) (h1 : P.underlying t = some (.slice e)) (h2 : P.info? e = some i) (h4 : i.size = size)
    (b off n cap : Nat) (hs : a.eval s = .slice (some ⟨b, off, none⟩) n cap)
    (ad : Addr) (m c : Nat) (news : List Value) (hx : a.eval x = .slice (some ad) m c) (hn : news.length = m * size) (hc : ∀ j u, news[j]? = some u → w.cell? (ad.add j) = some u) (h1c : ∀ u ∈ news, u.oneCell' = true)
    (hroom : n + m ≤ cap) (hspare : ∀ j, j < news.length → (w.cell? ⟨b, off + n * size + j, none⟩).isSome = true ∧ w.frozen? ⟨b, off + n * size + j, none⟩ = false)
    (hK : K (a.put o.dst (.slice (some ⟨b, off, none⟩) (n + m) cap)) (w.setCells b (off + n * size) news)) : Oper.wp P o a w K Q := by
  subst h4
  have hrun := run_append_room_cells (P := P) w t o.type e i h1 h2 b off n cap ad m c news hn hc h1c hroom (fun j hj => (hspare j hj).1) (fun j hj => (hspare j hj).2)
  unfold Oper.wp
  simp [execOp, hop, resolve, invoke, builtin, hs, hx, hrun, Result.andThen]
  exact hK
theorem ins_own {base g c n i : Nat} {xs us : List Value} {cur cur1 cur2 : Array Value} {w : World} {t : TypeId}
    (hl1 : cur1.toList = cur.toList.take ((i + 1) * 3) ++ xs.drop (i * 3) ++ cur.toList.drop ((i + 1) * 3 + (xs.drop (i * 3)).length)) (hl2 : cur2.toList = cur1.toList.take (i * 3) ++ us ++ cur1.toList.drop (i * 3 + us.length)) (htk : cur.toList.take (n * 3) = xs) (hxl : xs.length = n * 3) (hul : us.length = 3)
    (hcs : cur.size = c * 3) (hi : i ≤ n) (hnc : n + 1 ≤ c) (hbg : base ≤ g) (hcm : c ≤ maxLen) (hb : w.heap[g]? = some (.cells cur2 t (0, 0))) :
    w.ownsRow base t 3 (.slice (some ⟨g, 0, none⟩) (n + 1) c) (n + 1) (xs.take (i * 3) ++ us ++ xs.drop (i * 3)) := by
  have hcl : cur.toList.length = c * 3 := by simpa using hcs
  have hdl : (xs.drop (i * 3)).length = n * 3 - i * 3 := by simp [hxl]
  have e1 : cur.toList.take (i * 3) = xs.take (i * 3) := by rw [← htk, List.take_take, Nat.min_eq_left (by omega)]
  have e2 : cur1.toList.take (i * 3) = xs.take (i * 3) := by
    rw [hl1, List.append_assoc, List.take_append_of_le_length (by rw [List.length_take]; omega), List.take_take, Nat.min_eq_left (by omega), e1]
  have e3 : cur1.toList.drop (i * 3 + us.length) = xs.drop (i * 3) ++ cur.toList.drop ((i + 1) * 3 + (xs.drop (i * 3)).length) := by
    rw [hl1, hul, List.append_assoc]
    exact List.drop_left' (by rw [List.length_take]; omega)
  have hlen : (xs.take (i * 3) ++ us ++ xs.drop (i * 3)).length = (n + 1) * 3 := by simp only [List.length_append, List.length_take, hdl, hul]; omega
  have e4 : cur2.toList = (xs.take (i * 3) ++ us ++ xs.drop (i * 3)) ++ cur.toList.drop ((i + 1) * 3 + (xs.drop (i * 3)).length) := by rw [hl2, e2, e3]; simp only [List.append_assoc]
  refine ⟨hlen, .inr ⟨g, c, cur2, rfl, hbg, hb, hnc, hcm, ?_, ?_⟩⟩
  · have h1 : cur2.toList.length = c * 3 := by rw [e4, List.length_append, hlen, List.length_drop, hdl, hcl]; omega
    simpa using h1
  · rw [e4]; exact List.take_left' hlen
theorem app_own {base g c n : Nat} {xs us : List Value} {cur cur2 : Array Value} {w : World} {t : TypeId}
    (hl2 : cur2.toList = cur.toList.take (n * 3) ++ us ++ cur.toList.drop (n * 3 + us.length)) (htk : cur.toList.take (n * 3) = xs) (hxl : xs.length = n * 3) (hul : us.length = 3)
    (hcs : cur.size = c * 3) (hnc : n + 1 ≤ c) (hbg : base ≤ g) (hcm : c ≤ maxLen) (hb : w.heap[g]? = some (.cells cur2 t (0, 0))) :
    w.ownsRow base t 3 (.slice (some ⟨g, 0, none⟩) (n + 1) c) (n + 1) (xs.take (n * 3) ++ us ++ xs.drop (n * 3)) := by
  have hcl : cur.toList.length = c * 3 := by simpa using hcs
  have e0 : xs.take (n * 3) ++ us ++ xs.drop (n * 3) = xs ++ us := by rw [List.take_of_length_le (by omega), List.drop_of_length_le (by omega)]; simp
  rw [e0]
  have hlen : (xs ++ us).length = (n + 1) * 3 := by simp only [List.length_append, hul]; omega
  rw [htk] at hl2
  refine ⟨hlen, .inr ⟨g, c, cur2, rfl, hbg, hb, hnc, hcm, ?_, ?_⟩⟩
  · have h1 : cur2.toList.length = c * 3 := by rw [hl2, List.length_append, hlen, List.length_drop, hul, hcl]; omega
    simpa using h1
  · rw [hl2]; exact List.take_left' hlen
theorem ins_any (base g c n i vb : Nat) (xs us : List Value) (cv : Array Value) (w : World) (h : w.ownsRow base 77 3 (.slice (some ⟨g, 0, none⟩) n c) n xs) (h1 : ∀ u ∈ xs, u.oneCell' = true) (hi : i ≤ n) (hn : n ≤ 100000) (hroom : n + 1 ≤ c)
    (hvg : vb ≠ g) (hvb : w.heap[vb]? = some (.cells cv 77 (0, 0))) (hvl : cv.toList = us) (hul : us.length = 3) (h1u : ∀ u ∈ us, u.oneCell' = true) :
    Calls Tryz.prog 48 #[.slice (some ⟨g, 0, none⟩) n c, .int .i64 i, .slice (some ⟨vb, 0, none⟩) 1 1] w fun e w' => e = .returned (.slice (some ⟨g, 0, none⟩) (n + 1) c) ∧ w'.ownsRow base 77 3 (.slice (some ⟨g, 0, none⟩) (n + 1) c) (n + 1) (xs.take (i * 3) ++ us ++ xs.drop (i * 3)) ∧ Kept (· = g) w w' := by
  obtain ⟨cur, hcur, hbg, hcm, hcs, htk⟩ : ∃ cur : Array Value, w.heap[g]? = some (.cells cur 77 (0, 0)) ∧ base ≤ g ∧ c ≤ maxLen ∧ cur.size = c * 3 ∧ cur.toList.take (n * 3) = xs := by
    rcases h.2 with ⟨h', _⟩ | ⟨g', cap', cur, h', hb, hg, _, hm, hs, ht⟩
    · simp at h'
    · simp only [Value.slice.injEq, Option.some.injEq, Addr.mk.injEq, and_true, true_and] at h'
      obtain ⟨rfl, rfl⟩ := h'
      exact ⟨cur, hg, hb, hm, hs, ht⟩
  obtain ⟨i0, hi0, _, hsz, _⟩ := info_parts Tryz.infoPk
  have hszm : (Tryz.prog.info? 77).map (·.size) = some 3 := by rw [hi0]; simp [hsz]
  have hxl := h.1
  have hU : ∀ j u, us[j]? = some u → w.cell? ((⟨vb, 0, none⟩ : Addr).add j) = some u := fun j u hu => by
    rw [add_plain, block_cell hvb, ← Array.getElem?_toList, hvl]
    exact hu
  by_cases hin : i = n
  · subst hin
    have hO := Lib.hid (And.intro hcur (And.intro hbg (And.intro hcm (And.intro hcs (And.intro htk hxl)))))
    have hU' := Lib.hid hU
    have spare : Hid (∀ j, j < us.length → (w.cell? ⟨g, 0 + i * 3 + j, none⟩).isSome = true ∧ w.frozen? ⟨g, 0 + i * 3 + j, none⟩ = false) := Lib.hid (fun j hj => by
      refine ⟨?_, block_free hcur _⟩
      rw [block_cell hcur, Array.getElem?_eq_getElem (by omega)]
      rfl)
    obtain ⟨cur2, hb2, hl2⟩ := setCells_block g 77 (0, 0) us (i * 3) w cur hcur (by rw [Array.size_eq_length_toList] at *; omega)
    have hK := Lib.hid (Kept.setCells (S := (· = g)) (.inl rfl) us (i * 3) (Kept.refl (· = g) w))
    have hB2 := Lib.hid hb2
    have hL2 := Lib.hid hl2
    have h1U := Lib.hid h1u
    clear h h1 hcur hbg hcs htk hU hvb hvl hb2 hl2 h1u hxl
    go_enter Tryz.func48, Tryz.ntmps48
    go_wp2_with (at_builtin; refine list_of_wp rfl ?_; refine wp_append_room (.tmp 23) (.tmp 24) 69 rfl 77 i0 3 Tryz.underlying69 hi0 hsz g 0 i c rfl ⟨vb, 0, none⟩ 1 1 us rfl (by rw [hul]) hU'.out h1U.out hroom spare.out ?_)
    go_ret
    obtain ⟨o1, o2, o3, o4, o5, o6⟩ := hO.out
    exact ⟨rfl, app_own hL2.out o5 o6 hul o4 hroom o2 o3 hB2.out, hK.out⟩
  · have hi2 : i < n := by omega
    have hne : ((i : Int) == n) = false := by simp; omega
    have hdl : (xs.drop (i * 3)).length = (n - i) * 3 := by rw [List.length_drop, hxl]; omega
    have hov : ∀ lb cb, (callFunc 76 #[.slice (some ⟨vb, 0, none⟩) 1 1, .slice (some ⟨g, (i + 1) * 3, none⟩) lb cb]).run Tryz.prog w = .ok (.value (.bool false)) w := fun lb cb => by
      rw [run_callFunc_extern Tryz.func76 (by kernel_rfl) (by kernel_rfl) (by kernel_rfl) (e := Extern.SlicesOverlaps.overlaps #[69, 69] #[4]) (by kernel_rfl),
        Lib.run_overlaps_apart w 69 4 77 Tryz.underlying69 3 (fun W => by simp [sizeOf, typeInfo, hi0, hsz]) ⟨vb, 0, none⟩ ⟨g, (i + 1) * 3, none⟩ 1 1 lb cb hvg 77 77 cv.size cur.size (by simp [World.shape?, hvb]) (by simp [World.shape?, hcur]) (by omega) (block_free hvb _) (block_free hvb _)]
      rfl
    have hsome : ∀ W : World, ∀ cu : Array Value, W.heap[g]? = some (.cells cu 77 (0, 0)) → cu.size = c * 3 → ∀ k, k < c * 3 → (W.cell? ⟨g, k, none⟩).isSome = true := fun W cu hW hs k hk => by
      rw [block_cell hW, Array.getElem?_eq_getElem (by omega)]
      rfl
    obtain ⟨cur1, hb1, hl1⟩ := setCells_block g 77 (0, 0) (xs.drop (i * 3)) ((i + 1) * 3) w.drew cur hcur (by rw [hdl, hcs]; omega)
    have hs1 : cur1.size = c * 3 := by
      have := congrArg List.length hl1
      simp only [Array.length_toList, List.length_append, List.length_take, List.length_drop, hcs, hxl] at this
      omega
    have hcp1 : ∀ ty dc sc, (Builtin.copy_ #[69, 69] ty #[.slice (some ⟨g, (i + 1) * 3, none⟩) (n - i) dc, .slice (some ⟨g, i * 3, none⟩) (n + 1 - i) sc]).run Tryz.prog w.drew = .ok (goInt (n - i : Nat)) (w.drew.setCells g ((i + 1) * 3) (xs.drop (i * 3))) := fun ty dc sc =>
      run_copyN w.drew _ _ ty 77 g ((i + 1) * 3) (n - i) dc ⟨g, i * 3, none⟩ (n + 1 - i) sc 3 (n - i) (xs.drop (i * 3)) Tryz.underlying69 hszm (by simp only [Nat.min_def]; split <;> omega) hdl
        (fun j v hj => by
          rw [List.getElem?_drop] at hj
          have hlt := (List.getElem?_eq_some_iff.1 hj).1
          have e : (⟨g, i * 3, none⟩ : Addr).add j = ⟨g, i * 3 + j, none⟩ := by unfold Addr.add; split <;> simp_all
          rw [e]
          exact (h.cellAt _ (by omega)).trans hj)
        (fun j hj => hsome w.drew cur hcur hcs _ (by rw [hdl] at hj; omega)) (fun j hj => block_free hcur _) (fun v hv => h1 v (List.mem_of_mem_drop hv))
    have hU1 : ∀ W : World, (∀ k, k ≠ g → W.heap[k]? = w.heap[k]?) → ∀ j v, us[j]? = some v → W.cell? ((⟨vb, 0, none⟩ : Addr).add j) = some v := fun W hW j v hj => by
      have e : W.cell? ((⟨vb, 0, none⟩ : Addr).add j) = w.cell? ((⟨vb, 0, none⟩ : Addr).add j) := World.cell?_of_block (by rw [add_block]; exact hW vb hvg)
      exact e.trans (hU j v hj)
    obtain ⟨W1, hW1⟩ : ∃ W1, W1 = w.drew.setCells g ((i + 1) * 3) (xs.drop (i * 3)) := ⟨_, rfl⟩
    have hfar1 : ∀ k, k ≠ g → W1.heap[k]? = w.heap[k]? := fun k hk => by rw [hW1]; exact setCells_far g (xs.drop (i * 3)) ((i + 1) * 3) w.drew k hk
    have hK1 : Kept (· = g) w W1 := by rw [hW1]; exact Kept.setCells (S := (· = g)) (.inl rfl) (xs.drop (i * 3)) ((i + 1) * 3) (Kept.refl (· = g) w).drew
    rw [← hW1] at hb1 hcp1
    obtain ⟨cur2, hb2, hl2⟩ := setCells_block g 77 (0, 0) us (i * 3) W1 cur1 hb1 (by rw [hs1]; omega)
    have hcp2 : ∀ ty dc, (Builtin.copy_ #[69, 69] ty #[.slice (some ⟨g, i * 3, none⟩) (n + 1 - i) dc, .slice (some ⟨vb, 0, none⟩) 1 1]).run Tryz.prog W1 = .ok (goInt (1 : Nat)) (W1.setCells g (i * 3) us) := fun ty dc =>
      run_copyN W1 _ _ ty 77 g (i * 3) (n + 1 - i) dc ⟨vb, 0, none⟩ 1 1 3 1 us Tryz.underlying69 hszm (by simp only [Nat.min_def]; split <;> omega) (by omega)
        (hU1 W1 hfar1) (fun j hj => hsome W1 cur1 hb1 hs1 _ (by omega)) (fun j hj => block_free hb1 _) h1u
    have hK := Lib.hid (Kept.setCells (S := (· = g)) (.inl rfl) us (i * 3) hK1)
    have hown := Lib.hid (ins_own (base := base) (w := W1.setCells g (i * 3) us) hl1 hl2 htk hxl hul hcs hi hroom hbg hcm hb2)
    have j1 : (i : Int) ≤ n := by omega
    have j2 : (n : Int) ≤ c := by omega
    have j3 : (i : Int) + 1 ≤ c := by omega
    have j4 : ((i : Int) + 1).toNat = i + 1 := by omega
    have j5 : ((n : Int) + 1).toNat = n + 1 := by omega
    have j6 : (n : Int) + 1 ≤ c := by omega
    have j7 : decide ((c : Int) < n + 1) = false := by simp; omega
    have j8 : (i : Int) + 1 ≤ n + 1 := by omega
    have j9 : (0 : Int) ≤ (i : Int) + 1 := by omega
    have j10 : (0 : Int) ≤ (n : Int) + 1 := by omega
    have j11 : ¬ (c - i = 0) := by omega
    have j12 : ¬ (c - (i + 1) = 0) := by omega
    have j13 : ¬ (c = i + 1) := by omega
    have j14 : ¬ (c = i) := by omega
    have j15 : ¬ (c ≤ i + 1) := by omega
    have j16 : ¬ (c ≤ i) := by omega
    have j17 : (i : Int) ≤ n + 1 := by omega
    have j18 : (i : Int) ≤ c := by omega
    have hw1 : IntKind.i64.wrap ((i : Int) + 1) = (i : Int) + 1 := by rw [IntKind.wrap_i64]; omega
    have hCP1 := Lib.hid hcp1
    have hCP2 := Lib.hid hcp2
    clear h h1 hi hvb hvl hul h1u hcur hbg hcm hcs htk hxl hU hin hdl hsome hs1 hU1 hfar1 hK1 hb1 hl1 hb2 hl2 hcp1 hcp2 hW1 hi2
    go_enter Tryz.func48, Tryz.ntmps48
    go_wp2_with (simp only [hov])
    have hcp1 := hCP1.out
    go_region_law fail
    clear hcp1
    have hcp3 := hCP2.out
    go_wp2_with fail
    go_ret
    exact ⟨rfl, hown.out, hK.out⟩
end Go.Proofs.YteeiacfddjhhkaaGreatDoor
