/- slices.Insert of one packet where there is room. net.Move. -/
import Derived.Test.YteeiacfddjhhkaaGreatDoorApp
import Derived.Lib.Overlaps
import Derived.Laws.Externs
import Derived.Laws.IdiomCopy
namespace Go.Proofs.YteeiacfddjhhkaaGreatDoor
open Go.RowKit
set_option maxRecDepth 100000

theorem run_copyN {P : Program} (w : World) (dT sT ty elem : TypeId) (b o dLen dCap : Nat) (a : Addr) (sLen sCap size m : Nat) (cs : List Value)
    (hu : P.underlying dT = some (.slice elem)) (hs : (P.info? elem).map (·.size) = some size) (hm : Nat.min sLen dLen = m) (hn : cs.length = m * size)
    (hsrc : ∀ j v, cs[j]? = some v → w.cell? (a.add j) = some v) (hc : ∀ j, j < cs.length → (w.cell? ⟨b, o + j, none⟩).isSome = true) (hf : ∀ j, j < cs.length → w.frozen? ⟨b, o + j, none⟩ = false) (h1 : ∀ v ∈ cs, v.oneCell' = true) :
    (Builtin.copy_ #[dT, sT] ty #[.slice (some ⟨b, o, none⟩) dLen dCap, .slice (some a) sLen sCap]).run P w = .ok (goInt m) (w.setCells b o cs) := by
  have hl := run_loadCells_list (P := P) w a cs hsrc
  rw [hn] at hl
  have hst := run_storeCells_cells (P := P) b o cs 0 w (by simpa using hc) (by simpa using hf) h1
  cases hq : P.info? elem with
  | none => simp [hq] at hs
  | some i =>
    have hi : i.size = size := by simpa [hq] using hs
    have hm' : min sLen dLen = m := hm
    simp [Builtin.copy_, run_underlying hu, Builtin.lenOf, Builtin.firstCells, sizeOf, typeInfo, hq, hi, hm, hm', hl, hst]
/-- copy, where its run is known. -/
theorem wp_copy_run {P : Program} {w : World} {o : Oper} {a : Act} {K : Act → World → Prop} {Q : Exit → Act → World → Prop} (d s : Operand) (t t' : TypeId)
    (ho : o.op = .call { callee := .builtin .copy, args := #[d, s], argTypes := #[t, t'] }) (v u : Value) (hd : a.eval d = v) (hs : a.eval s = u) {v' : Value} {w' : World}
    (hr : (Builtin.copy_ #[t, t'] o.type #[v, u]).run P w = .ok v' w') (h : K (a.put o.dst v') w') : o.wp P a w K Q := by
  unfold Oper.wp execOp
  simp only [ho, resolve, invoke, builtin, Sem.run_bind, Sem.run_pure, Result.andThen_ok, List.map_toArray, List.map_cons, List.map_nil, hd, hs, hr]
  exact h
/-- append where there is room. -/
theorem wp_append_room {P : Program} {o : Oper} {a : Act} {w : World} {K : Act → World → Prop} {Q : Exit → Act → World → Prop}
    (s x : Operand) (t : TypeId) (hop : o.op = Op.call { callee := Callee.builtin Builtin.append, args := #[s, x], argTypes := #[t, t] })
    (e : TypeId) (i : TypeInfo) (size : Nat) (h1 : P.underlying t = some (.slice e)) (h2 : P.info? e = some i) (h4 : i.size = size)
    (b off n cap : Nat) (hs : a.eval s = .slice (some ⟨b, off, none⟩) n cap)
    (ad : Addr) (m c : Nat) (news : List Value) (hx : a.eval x = .slice (some ad) m c) (hn : news.length = m * size) (hc : ∀ j u, news[j]? = some u → w.cell? (ad.add j) = some u) (h1c : ∀ u ∈ news, u.oneCell' = true)
    (hroom : n + m ≤ cap) (hspare : ∀ j, j < news.length → (w.cell? ⟨b, off + n * size + j, none⟩).isSome = true ∧ w.frozen? ⟨b, off + n * size + j, none⟩ = false)
    (hK : K (a.put o.dst (.slice (some ⟨b, off, none⟩) (n + m) cap)) (w.setCells b (off + n * size) news)) : Oper.wp P o a w K Q := by
  subst h4
  have hrun := run_append_room_cells (P := P) w t o.type e i h1 h2 b off n cap ad m c news hn hc h1c hroom (fun j hj => (hspare j hj).1) (fun j hj => (hspare j hj).2)
  unfold Oper.wp
  simp [execOp, hop, resolve, invoke, builtin, hs, hx, hrun, Result.andThen]
  exact hK
theorem ins_own {base g c n i : Nat} {xs us : List Value} {cur cur1 cur2 : Array Value} {w : World} {t : TypeId}
    (hl1 : cur1.toList = cur.toList.take ((i + 1) * 3) ++ xs.drop (i * 3) ++ cur.toList.drop ((i + 1) * 3 + (xs.drop (i * 3)).length)) (hl2 : cur2.toList = cur1.toList.take (i * 3) ++ us ++ cur1.toList.drop (i * 3 + us.length)) (htk : cur.toList.take (n * 3) = xs) (hxl : xs.length = n * 3) (hul : us.length = 3)
    (hcs : cur.size = c * 3) (hi : i ≤ n) (hnc : n + 1 ≤ c) (hbg : base ≤ g) (hcm : c ≤ maxLen) (hb : w.heap[g]? = some (.cells cur2 t (0, 0))) :
    w.ownsRow base t 3 (.slice (some ⟨g, 0, none⟩) (n + 1) c) (n + 1) (xs.take (i * 3) ++ us ++ xs.drop (i * 3)) := by
  have hcl : cur.toList.length = c * 3 := by simpa using hcs
  have hdl : (xs.drop (i * 3)).length = n * 3 - i * 3 := by simp [hxl]
  have e1 : cur.toList.take (i * 3) = xs.take (i * 3) := by rw [← htk, List.take_take, Nat.min_eq_left (by omega)]
  have e2 : cur1.toList.take (i * 3) = xs.take (i * 3) := by
    rw [hl1, List.append_assoc, List.take_append_of_le_length (by rw [List.length_take]; omega), List.take_take, Nat.min_eq_left (by omega), e1]
  have e3 : cur1.toList.drop (i * 3 + us.length) = xs.drop (i * 3) ++ cur.toList.drop ((i + 1) * 3 + (xs.drop (i * 3)).length) := by
    rw [hl1, hul, List.append_assoc]
    exact List.drop_left' (by rw [List.length_take]; omega)
  have hlen : (xs.take (i * 3) ++ us ++ xs.drop (i * 3)).length = (n + 1) * 3 := by simp only [List.length_append, List.length_take, hdl, hul]; omega
  have e4 : cur2.toList = (xs.take (i * 3) ++ us ++ xs.drop (i * 3)) ++ cur.toList.drop ((i + 1) * 3 + (xs.drop (i * 3)).length) := by rw [hl2, e2, e3]; simp only [List.append_assoc]
  refine ⟨hlen, .inr ⟨g, c, cur2, rfl, hbg, hb, hnc, hcm, ?_, ?_⟩⟩
  · have h1 : cur2.toList.length = c * 3 := by rw [e4, List.length_append, hlen, List.length_drop, hdl, hcl]; omega
    simpa using h1
  · rw [e4]; exact List.take_left' hlen
theorem app_own {base g c n : Nat} {xs us : List Value} {cur cur2 : Array Value} {w : World} {t : TypeId}
    (hl2 : cur2.toList = cur.toList.take (n * 3) ++ us ++ cur.toList.drop (n * 3 + us.length)) (htk : cur.toList.take (n * 3) = xs) (hxl : xs.length = n * 3) (hul : us.length = 3)
    (hcs : cur.size = c * 3) (hnc : n + 1 ≤ c) (hbg : base ≤ g) (hcm : c ≤ maxLen) (hb : w.heap[g]? = some (.cells cur2 t (0, 0))) :
    w.ownsRow base t 3 (.slice (some ⟨g, 0, none⟩) (n + 1) c) (n + 1) (xs.take (n * 3) ++ us ++ xs.drop (n * 3)) := by
  have hcl : cur.toList.length = c * 3 := by simpa using hcs
  have e0 : xs.take (n * 3) ++ us ++ xs.drop (n * 3) = xs ++ us := by rw [List.take_of_length_le (by omega), List.drop_of_length_le (by omega)]; simp
  rw [e0]
  have hlen : (xs ++ us).length = (n + 1) * 3 := by simp only [List.length_append, hul]; omega
  rw [htk] at hl2
  refine ⟨hlen, .inr ⟨g, c, cur2, rfl, hbg, hb, hnc, hcm, ?_, ?_⟩⟩
  · have h1 : cur2.toList.length = c * 3 := by rw [hl2, List.length_append, hlen, List.length_drop, hul, hcl]; omega
    simpa using h1
  · rw [hl2]; exact List.take_left' hlen
theorem ins_any (base g c n i vb : Nat) (xs us : List Value) (cv : Array Value) (w : World) (h : w.ownsRow base 77 3 (.slice (some ⟨g, 0, none⟩) n c) n xs) (h1 : ∀ u ∈ xs, u.oneCell' = true) (hi : i ≤ n) (hn : n ≤ 100000) (hroom : n + 1 ≤ c)
    (hvg : vb ≠ g) (hvb : w.heap[vb]? = some (.cells cv 77 (0, 0))) (hvl : cv.toList = us) (hul : us.length = 3) (h1u : ∀ u ∈ us, u.oneCell' = true) :
    Calls Tryz.prog 48 #[.slice (some ⟨g, 0, none⟩) n c, .int .i64 i, .slice (some ⟨vb, 0, none⟩) 1 1] w fun e w' => e = .returned (.slice (some ⟨g, 0, none⟩) (n + 1) c) ∧ w'.ownsRow base 77 3 (.slice (some ⟨g, 0, none⟩) (n + 1) c) (n + 1) (xs.take (i * 3) ++ us ++ xs.drop (i * 3)) ∧ Kept (· = g) w w' := by
  obtain ⟨cur, hcur, hbg, hcm, hcs, htk⟩ : ∃ cur : Array Value, w.heap[g]? = some (.cells cur 77 (0, 0)) ∧ base ≤ g ∧ c ≤ maxLen ∧ cur.size = c * 3 ∧ cur.toList.take (n * 3) = xs := by
    rcases h.2 with ⟨h', _⟩ | ⟨g', cap', cur, h', hb, hg, _, hm, hs, ht⟩
    · simp at h'
    · simp only [Value.slice.injEq, Option.some.injEq, Addr.mk.injEq, and_true, true_and] at h'
      obtain ⟨rfl, rfl⟩ := h'
      exact ⟨cur, hg, hb, hm, hs, ht⟩
  obtain ⟨i0, hi0, _, hsz, _⟩ := info_parts Tryz.infoPk
  have hszm : (Tryz.prog.info? 77).map (·.size) = some 3 := by rw [hi0]; simp [hsz]
  have hxl := h.1
  have hU : ∀ j u, us[j]? = some u → w.cell? ((⟨vb, 0, none⟩ : Addr).add j) = some u := fun j u hu => by
    rw [add_plain, block_cell hvb, ← Array.getElem?_toList, hvl]
    exact hu
  by_cases hin : i = n
  · subst hin
    have hO := Lib.hid (And.intro hcur (And.intro hbg (And.intro hcm (And.intro hcs (And.intro htk hxl)))))
    have hU' := Lib.hid hU
    have spare : Hid (∀ j, j < us.length → (w.cell? ⟨g, 0 + i * 3 + j, none⟩).isSome = true ∧ w.frozen? ⟨g, 0 + i * 3 + j, none⟩ = false) := Lib.hid (fun j hj => by
      refine ⟨?_, block_free hcur _⟩
      rw [block_cell hcur, Array.getElem?_eq_getElem (by omega)]
      rfl)
    obtain ⟨cur2, hb2, hl2⟩ := setCells_block g 77 (0, 0) us (i * 3) w cur hcur (by rw [Array.size_eq_length_toList] at *; omega)
    have hK := Lib.hid (Kept.setCells (S := (· = g)) (.inl rfl) us (i * 3) (Kept.refl (· = g) w))
    have hB2 := Lib.hid hb2
    have hL2 := Lib.hid hl2
    have h1U := Lib.hid h1u
    clear h h1 hcur hbg hcs htk hU hvb hvl hb2 hl2 h1u hxl
    go_enter Tryz.func48, Tryz.ntmps48
    go_wp2_with (at_builtin; refine list_of_wp rfl ?_; refine wp_append_room (.tmp 23) (.tmp 24) 69 rfl 77 i0 3 Tryz.underlying69 hi0 hsz g 0 i c rfl ⟨vb, 0, none⟩ 1 1 us rfl (by rw [hul]) hU'.out h1U.out hroom spare.out ?_)
    go_ret
    obtain ⟨o1, o2, o3, o4, o5, o6⟩ := hO.out
    exact ⟨rfl, app_own hL2.out o5 o6 hul o4 hroom o2 o3 hB2.out, hK.out⟩
  · have hi2 : i < n := by omega
    have hne : ((i : Int) == n) = false := by simp; omega
    have hdl : (xs.drop (i * 3)).length = (n - i) * 3 := by rw [List.length_drop, hxl]; omega
    have hov : ∀ lb cb, (callFunc 76 #[.slice (some ⟨vb, 0, none⟩) 1 1, .slice (some ⟨g, (i + 1) * 3, none⟩) lb cb]).run Tryz.prog w = .ok (.value (.bool false)) w := fun lb cb => by
      rw [run_callFunc_extern Tryz.func76 (by kernel_rfl) (by kernel_rfl) (by kernel_rfl) (e := Extern.SlicesOverlaps.overlaps #[69, 69] #[4]) (by kernel_rfl),
        Lib.run_overlaps_apart w 69 4 77 Tryz.underlying69 3 (fun W => by simp [sizeOf, typeInfo, hi0, hsz]) ⟨vb, 0, none⟩ ⟨g, (i + 1) * 3, none⟩ 1 1 lb cb hvg 77 77 cv.size cur.size (by simp [World.shape?, hvb]) (by simp [World.shape?, hcur]) (by omega) (block_free hvb _) (block_free hvb _)]
      rfl
    have hsome : ∀ W : World, ∀ cu : Array Value, W.heap[g]? = some (.cells cu 77 (0, 0)) → cu.size = c * 3 → ∀ k, k < c * 3 → (W.cell? ⟨g, k, none⟩).isSome = true := fun W cu hW hs k hk => by
      rw [block_cell hW, Array.getElem?_eq_getElem (by omega)]
      rfl
    obtain ⟨cur1, hb1, hl1⟩ := setCells_block g 77 (0, 0) (xs.drop (i * 3)) ((i + 1) * 3) w.drew cur hcur (by rw [hdl, hcs]; omega)
    have hs1 : cur1.size = c * 3 := by
      have := congrArg List.length hl1
      simp only [Array.length_toList, List.length_append, List.length_take, List.length_drop, hcs, hxl] at this
      omega
    have hcp1 : ∀ ty dc sc, (Builtin.copy_ #[69, 69] ty #[.slice (some ⟨g, (i + 1) * 3, none⟩) (n - i) dc, .slice (some ⟨g, i * 3, none⟩) (n + 1 - i) sc]).run Tryz.prog w.drew = .ok (goInt (n - i : Nat)) (w.drew.setCells g ((i + 1) * 3) (xs.drop (i * 3))) := fun ty dc sc =>
      run_copyN w.drew _ _ ty 77 g ((i + 1) * 3) (n - i) dc ⟨g, i * 3, none⟩ (n + 1 - i) sc 3 (n - i) (xs.drop (i * 3)) Tryz.underlying69 hszm (by simp only [Nat.min_def]; split <;> omega) hdl
        (fun j v hj => by
          rw [List.getElem?_drop] at hj
          have hlt := (List.getElem?_eq_some_iff.1 hj).1
          have e : (⟨g, i * 3, none⟩ : Addr).add j = ⟨g, i * 3 + j, none⟩ := by unfold Addr.add; split <;> simp_all
          rw [e]
          exact (h.cellAt _ (by omega)).trans hj)
        (fun j hj => hsome w.drew cur hcur hcs _ (by rw [hdl] at hj; omega)) (fun j hj => block_free hcur _) (fun v hv => h1 v (List.mem_of_mem_drop hv))
    have hU1 : ∀ W : World, (∀ k, k ≠ g → W.heap[k]? = w.heap[k]?) → ∀ j v, us[j]? = some v → W.cell? ((⟨vb, 0, none⟩ : Addr).add j) = some v := fun W hW j v hj => by
      have e : W.cell? ((⟨vb, 0, none⟩ : Addr).add j) = w.cell? ((⟨vb, 0, none⟩ : Addr).add j) := World.cell?_of_block (by rw [add_block]; exact hW vb hvg)
      exact e.trans (hU j v hj)
    obtain ⟨W1, hW1⟩ : ∃ W1, W1 = w.drew.setCells g ((i + 1) * 3) (xs.drop (i * 3)) := ⟨_, rfl⟩
    have hfar1 : ∀ k, k ≠ g → W1.heap[k]? = w.heap[k]? := fun k hk => by rw [hW1]; exact setCells_far g (xs.drop (i * 3)) ((i + 1) * 3) w.drew k hk
    have hK1 : Kept (· = g) w W1 := by rw [hW1]; exact Kept.setCells (S := (· = g)) (.inl rfl) (xs.drop (i * 3)) ((i + 1) * 3) (Kept.refl (· = g) w).drew
    rw [← hW1] at hb1 hcp1
    obtain ⟨cur2, hb2, hl2⟩ := setCells_block g 77 (0, 0) us (i * 3) W1 cur1 hb1 (by rw [hs1]; omega)
    have hcp2 : ∀ ty dc, (Builtin.copy_ #[69, 69] ty #[.slice (some ⟨g, i * 3, none⟩) (n + 1 - i) dc, .slice (some ⟨vb, 0, none⟩) 1 1]).run Tryz.prog W1 = .ok (goInt (1 : Nat)) (W1.setCells g (i * 3) us) := fun ty dc =>
      run_copyN W1 _ _ ty 77 g (i * 3) (n + 1 - i) dc ⟨vb, 0, none⟩ 1 1 3 1 us Tryz.underlying69 hszm (by simp only [Nat.min_def]; split <;> omega) (by omega)
        (hU1 W1 hfar1) (fun j hj => hsome W1 cur1 hb1 hs1 _ (by omega)) (fun j hj => block_free hb1 _) h1u
    have hK := Lib.hid (Kept.setCells (S := (· = g)) (.inl rfl) us (i * 3) hK1)
    have hown := Lib.hid (ins_own (base := base) (w := W1.setCells g (i * 3) us) hl1 hl2 htk hxl hul hcs hi hroom hbg hcm hb2)
    have j1 : (i : Int) ≤ n := by omega
    have j2 : (n : Int) ≤ c := by omega
    have j3 : (i : Int) + 1 ≤ c := by omega
    have j4 : ((i : Int) + 1).toNat = i + 1 := by omega
    have j5 : ((n : Int) + 1).toNat = n + 1 := by omega
    have j6 : (n : Int) + 1 ≤ c := by omega
    have j7 : decide ((c : Int) < n + 1) = false := by simp; omega
    have j8 : (i : Int) + 1 ≤ n + 1 := by omega
    have j9 : (0 : Int) ≤ (i : Int) + 1 := by omega
    have j10 : (0 : Int) ≤ (n : Int) + 1 := by omega
    have j11 : ¬ (c - i = 0) := by omega
    have j12 : ¬ (c - (i + 1) = 0) := by omega
    have j13 : ¬ (c = i + 1) := by omega
    have j14 : ¬ (c = i) := by omega
    have j15 : ¬ (c ≤ i + 1) := by omega
    have j16 : ¬ (c ≤ i) := by omega
    have j17 : (i : Int) ≤ n + 1 := by omega
    have j18 : (i : Int) ≤ c := by omega
    have hw1 : IntKind.i64.wrap ((i : Int) + 1) = (i : Int) + 1 := by rw [IntKind.wrap_i64]; omega
    have hCP1 := Lib.hid hcp1
    have hCP2 := Lib.hid hcp2
    clear h h1 hi hvb hvl hul h1u hcur hbg hcm hcs htk hxl hU hin hdl hsome hs1 hU1 hfar1 hK1 hb1 hl1 hb2 hl2 hcp1 hcp2 hW1 hi2
    go_enter Tryz.func48, Tryz.ntmps48
    go_wp2_with (simp only [hov])
    have hcp1 := hCP1.out
    go_region_law fail
    clear hcp1
    have hcp3 := hCP2.out
    go_wp2_with fail
    go_ret
    exact ⟨rfl, hown.out, hK.out⟩
end Go.Proofs.YteeiacfddjhhkaaGreatDoor
namespace Go.Proofs.YteeiacfddjhhkaaGreatDoor
open Go.RowKit
set_option maxRecDepth 100000
variable {cz : Cuts}

theorem pksC_insert : ∀ (vs : List Value) (ks : List PK) (i : Nat) (v : Value) (k : PK), vs.length = ks.length → i ≤ ks.length → (pksC vs ks).take (i * 3) ++ [v, .int .i64 k.site, .int .i64 k.waits] ++ (pksC vs ks).drop (i * 3) = pksC (vs.insertIdx i v) (ks.insertIdx i k)
  | [], [], 0, _, _, _, _ => rfl
  | [], [], i + 1, _, _, _, h => by simp at h
  | [], _ :: _, _, _, _, h, _ => by simp at h
  | _ :: _, [], _, _, _, h, _ => by simp at h
  | v0 :: vs, k0 :: ks, 0, v, k, _, _ => by simp [pksC_cons]
  | v0 :: vs, k0 :: ks, i + 1, v, k, hl, hi => by
    have h := pksC_insert vs ks i v k (by simpa using hl) (by simpa using hi)
    rw [List.insertIdx_succ_cons, List.insertIdx_succ_cons, pksC_cons, pksC_cons, ← h]
    have e : (i + 1) * 3 = i * 3 + 3 := by omega
    rw [e]
    rfl
/-- A packet is set in. -/
theorem NetAt.inserted {w w9 : World} {p : Nat} {most : Int} {ks : List PK} {g c mb : Nat} {mk : MapIs cz} {vs : List Value} {v1 : Value} {k : PK} {i : Nat}
    (h1 : w.heap[p]? = some (.cells #[.int .i64 most, .slice (some ⟨g, 0, none⟩) ks.length c, .map (some mb)] 71 (0, 0))) (h2 : w.heap[mb]? = some (.map mk.es mk.ck)) (h3 : mb + 1 = p) (h4 : w.ownsRow (p + 1) 77 3 (.slice (some ⟨g, 0, none⟩) ks.length c) ks.length (pksC vs ks)) (h5 : vs.length = ks.length)
    (h6 : ∀ (i : Nat) (v : Value) (k : PK), vs[i]? = some v → ks[i]? = some k → OB w (p + 1) v k.b ∧ k.b.length ≤ 100000 ∧ 0 ≤ k.waits ∧ k.waits ≤ 1000)
    (hO : w9.ownsRow (p + 1) 77 3 (.slice (some ⟨g, 0, none⟩) (ks.length + 1) c) (ks.length + 1) ((pksC vs ks).take (i * 3) ++ [v1, .int .i64 k.site, .int .i64 k.waits] ++ (pksC vs ks).drop (i * 3))) (hG : Kept (· = g) w w9) (hi : i ≤ ks.length)
    (hv : OB w (p + 1) v1 k.b) (hbl : k.b.length ≤ 100000) (hw0 : 0 ≤ k.waits) (hw1 : k.waits ≤ 1000) :
    NetAt cz (w9.setCell ⟨p, 1, none⟩ (.slice (some ⟨g, 0, none⟩) (ks.length + 1) c)) p most (ks.insertIdx i k) ∧ Kept (NS w p) w (w9.setCell ⟨p, 1, none⟩ (.slice (some ⟨g, 0, none⟩) (ks.length + 1) c)) := by
  have hpg := own_ge h4 g rfl
  obtain ⟨cur, hcur⟩ := own_type h4 (g := g) rfl
  have kB : Kept (NS w p) w w9 := hG.mono (fun q hq => by subst hq; exact ⟨by omega, cur, _, _, hcur, .inl rfl⟩)
  have h19 : w9.heap[p]? = some (.cells #[.int .i64 most, .slice (some ⟨g, 0, none⟩) ks.length c, .map (some mb)] 71 (0, 0)) := (hG.block p (lt_of_block h1) (by omega)).trans h1
  have h29 : w9.heap[mb]? = some (.map mk.es mk.ck) := (hG.block mb (lt_of_block h2) (by omega)).trans h2
  have kC : Kept (NS w9 p) w9 (w9.setCell ⟨p, 1, none⟩ (.slice (some ⟨g, 0, none⟩) (ks.length + 1) c)) := Kept.setCell (p := ⟨p, 1, none⟩) (Kept.refl _ w9) (.inl ⟨Nat.le_refl _, _, _, _, h19, .inr rfl⟩) _
  have kAll := KeptN_trans kB kC
  have hlen : (ks.insertIdx i k).length = ks.length + 1 := by rw [List.length_insertIdx_of_le_length hi]
  have hvlen : (vs.insertIdx i v1).length = ks.length + 1 := by rw [List.length_insertIdx_of_le_length (by omega), h5]
  refine ⟨⟨some ⟨g, 0, none⟩, c, mb, mk, vs.insertIdx i v1, ?_, ?_, h3, ?_, by rw [hlen, hvlen], ?_⟩, kAll⟩
  · rw [hlen]; exact block_setCell h19 1 _
  · rw [Below.heap_setCell _ _ _ _ (by show mb ≠ p; omega)]; exact h29
  · rw [hlen, ← pksC_insert vs ks i v1 k h5 hi]
    exact own_move hO fun q hq => Below.heap_setCell _ _ _ _ (by have := own_ge hO q hq; show q ≠ p; omega)
  · intro j v k' hv' hk'
    rcases Nat.lt_trichotomy j i with hj | hj | hj
    · rw [List.getElem?_insertIdx_of_lt hj] at hv' hk'
      obtain ⟨a1, a2⟩ := h6 j v k' hv' hk'
      exact ⟨a1.keptN kAll, a2⟩
    · subst hj
      rw [List.getElem?_insertIdx_self] at hv' hk'
      rw [if_pos (by omega)] at hv' hk'
      cases hv'
      cases hk'
      exact ⟨hv.keptN kAll, hbl, hw0, hw1⟩
    · rw [List.getElem?_insertIdx_of_gt hj] at hv' hk'
      obtain ⟨a1, a2⟩ := h6 (j - 1) v k' hv' hk'
      exact ⟨a1.keptN kAll, a2⟩
def moveL (ks : List PK) (i t : Nat) (k : PK) : List PK := (ks.eraseIdx i).insertIdx t k
theorem Move_ok (p : Nat) (most : Int) (ks : List PK) (i t : Nat) (k : PK) (w : World) (h : NetAt cz w p most ks) (hk : ks[i]? = some k) (ht : t < ks.length) (hl : ks.length ≤ 100000) :
    Calls Tryz.prog 21 #[.pointer (some ⟨p, 0, none⟩), .int .i64 i, .int .i64 t] w fun e w' => e = .returned (.int .i64 0) ∧ NetAt cz w' p most (moveL ks i t k) ∧ Kept (NS w p) w w' := by
  have hi : i < ks.length := (List.getElem?_eq_some_iff.1 hk).1
  have hN := Lib.hid h
  have hK := Lib.hid hk
  have hkb : k.b.length ≤ 100000 ∧ 0 ≤ k.waits ∧ k.waits ≤ 1000 := by
    obtain ⟨g, c, mb, mk, vs, v, h1, h2, h3, h4, h5, h6, hv, hov⟩ := h.row hk
    exact (h6 i v k hv hk).2
  clear h hk
  go_enter Tryz.func21, Tryz.ntmps21
  go_wp2_with fail
  refine (at_ok p most ks i _ hN.out hi).mono ?_
  rintro e w ⟨rfl, rfl⟩
  go_wp2_with fail
  refine (at_ok p most ks t _ hN.out ht).mono ?_
  rintro e w ⟨rfl, rfl⟩
  go_wp2_with fail
  refine (gone_cap p most ks i k _ hN.out hK.out hl).mono ?_
  rintro e w1 ⟨v, rfl, hov_, hN1_, hK1_, g, c, hc_, hnc⟩
  obtain ⟨A, d, rfl⟩ := own_slice hov_
  have hlen : (ks.eraseIdx i).length = ks.length - 1 := List.length_eraseIdx_of_lt hi
  obtain ⟨A', c', mb, mk, vs, h1, h2, h3, h4, h5, h6⟩ := hN1_
  have hcc : Value.slice A' (ks.eraseIdx i).length c' = .slice (some ⟨g, 0, none⟩) (ks.length - 1) c := by
    rw [block_cell h1] at hc_
    simpa using hc_
  rw [hlen] at hcc
  cases hcc
  have hov := Lib.hid hov_
  have hK1 := Lib.hid hK1_
  have hP := Lib.hid (And.intro h1 (And.intro h2 (And.intro h3 (And.intro h4 (And.intro h5 h6)))))
  have x1 := hc_
  clear hov_ hK1_ h1 h2 h3 h4 h5 h6 hc_
  go_wp2_with fail
  have hszW2 := World.size_alloc w1 (.cells #[.slice A k.b.length d, .int .i64 k.site, .int .i64 k.waits] 77)
  have hB2 := Lib.hid (below_alloc (Below.refl _ w1) (.cells #[.slice A k.b.length d, .int .i64 k.site, .int .i64 k.waits] 77))
  have hq := heap_alloc_new w1 (.cells #[.slice A k.b.length d, .int .i64 k.site, .int .i64 k.waits] 77)
  generalize w1.alloc (.cells #[.slice A k.b.length d, .int .i64 k.site, .int .i64 k.waits] 77) = W2 at *
  have hSb : Hid (∀ W : World, Below W2.heap.size W2 W → W.cell? ⟨p, 1, none⟩ = some (.slice (some ⟨g, 0, none⟩) (ks.length - 1) c) ∧ W.cell? ⟨w1.heap.size, 0, none⟩ = some (.slice A k.b.length d) ∧ W.cell? ⟨w1.heap.size, 1, none⟩ = some (.int .i64 k.site) ∧ W.cell? ⟨w1.heap.size, 2, none⟩ = some (.int .i64 k.waits)) := Lib.hid (fun W hb => by
    have e := block_below hb hq
    exact ⟨cell_below (bnext hB2.out hb) x1, by rw [block_cell e]; rfl, by rw [block_cell e]; rfl, by rw [block_cell e]; rfl⟩)
  have hBd : Hid (Below W2.heap.size W2 W2.drew) := Lib.hid (Below.refl _ W2).drew
  have hone : Hid (∀ u ∈ pksC vs (ks.eraseIdx i), u.oneCell' = true) := Lib.hid (pksC_one _ _ (NetAt.one hP.out.2.2.2.2.1 hP.out.2.2.2.2.2))
  have hgl := (hP.out.2.2.2.1.lt g rfl).2
  have hpg := own_ge hP.out.2.2.2.1 g rfl
  have hp1 : p < w1.heap.size := lt_of_block hP.out.1
  rw [hlen] at hP
  have ht2 : Hid (t ≤ ks.length - 1) := Lib.hid (by omega)
  have hl2 : Hid (ks.length - 1 ≤ 100000) := Lib.hid (by omega)
  have hr2 : Hid (ks.length - 1 + 1 ≤ c) := Lib.hid (by omega)
  have hvg : Hid (w1.heap.size + 1 ≠ g) := Lib.hid (by omega)
  obtain ⟨s1, s2, s3, s4⟩ := hSb.out W2 (Below.refl _ _)
  have hSi : Hid (∀ (W3 w9 : World), Below W2.heap.size W2 W3 → Kept (· = g) W3 w9 → (w9.cell? ⟨p, 1, none⟩ = some (.slice (some ⟨g, 0, none⟩) (ks.length - 1) c) ∧ w9.cell? ⟨w1.heap.size, 0, none⟩ = some (.slice A k.b.length d) ∧ w9.cell? ⟨w1.heap.size, 1, none⟩ = some (.int .i64 k.site) ∧ w9.cell? ⟨w1.heap.size, 2, none⟩ = some (.int .i64 k.waits)) ∧ w9.frozen? ⟨p, 1, none⟩ = false) := Lib.hid (fun W3 w9 hb hk => by
    have e1 := (hk.block _ (lt_of_block (block_below hb hq)) (by omega)).trans (block_below hb hq)
    have h1 := block_below (bnext hB2.out hb) hP.out.1
    have e2 := (hk.block _ (lt_of_block h1) (by omega)).trans h1
    exact ⟨⟨by rw [block_cell e2]; rfl, by rw [block_cell e1]; rfl, by rw [block_cell e1]; rfl, by rw [block_cell e1]; rfl⟩, block_free e2 1⟩)
  have hB3 := Lib.hid (below_alloc (Below.refl _ W2) (.cells #[.slice A k.b.length d, .int .i64 k.site, .int .i64 k.waits] 77)).drew
  have hins := Lib.hid (ins_any (p + 1) g c (ks.length - 1) t (w1.heap.size + 1) (pksC vs (ks.eraseIdx i)) [.slice A k.b.length d, .int .i64 k.site, .int .i64 k.waits] #[.slice A k.b.length d, .int .i64 k.site, .int .i64 k.waits] (W2.alloc (.cells #[.slice A k.b.length d, .int .i64 k.site, .int .i64 k.waits] 77)).drew (own_below hP.out.2.2.2.1 (bnext hB2.out hB3.out)) hone.out ht2.out hl2.out hr2.out hvg.out (by rw [← hszW2]; exact heap_alloc_new W2 _) rfl rfl (by simp [Value.oneCell']))
  clear hq x1
  go_region_held3 (fun w' => w'.cell? ⟨p, 1, none⟩ = some (.slice (some ⟨g, 0, none⟩) (ks.length - 1) c) ∧ w'.cell? ⟨w1.heap.size, 0, none⟩ = some (.slice A k.b.length d) ∧ w'.cell? ⟨w1.heap.size, 1, none⟩ = some (.int .i64 k.site) ∧ w'.cell? ⟨w1.heap.size, 2, none⟩ = some (.int .i64 k.waits))
    (first | exact hS9.out.1 | exact hSb.out _ hBd.out | exact hSb.out _ hB3.out | go_keep)
    ((first
      | (go_at_call 48; refine hins.out.mono ?_; rintro e w9 ⟨rfl, hO9_, hK9_⟩; have hS9 := Lib.hid (hSi.out _ _ hB3.out hK9_); have hO9 := Lib.hid hO9_; have hK9 := Lib.hid hK9_; clear hO9_ hK9_)))
  have t1 := hS9.out.1.1
  have t2 := hS9.out.2
  clear s1 s2 s3 s4
  go_wp2_with fail
  go_ret
  obtain ⟨h1, h2, h3, h4, h5, h6⟩ := hP.out
  have hb := bnext hB2.out hB3.out
  obtain ⟨kb1, kb2, kb3⟩ := hkb
  have hfin := NetAt.inserted (ks := ks.eraseIdx i) (k := k) (i := t) (most := most) (mb := mb) (by rw [hlen]; exact block_below hb h1) (block_below hb h2) h3 (by rw [hlen]; exact own_below h4 hb) (by rw [hlen]; exact h5) (fun j v k' hv hk' => ⟨(h6 j v k' hv hk').1.below hb, (h6 j v k' hv hk').2⟩) (by rw [hlen]; exact hO9.out) hK9.out (by rw [hlen]; exact ht2.out) (hov.out.below hb) kb1 kb2 kb3
  rw [hlen] at hfin
  exact ⟨rfl, hfin.1, KeptN_trans (KeptN_trans hK1.out (Kept.of_below _ hb)) hfin.2⟩
end Go.Proofs.YteeiacfddjhhkaaGreatDoor
