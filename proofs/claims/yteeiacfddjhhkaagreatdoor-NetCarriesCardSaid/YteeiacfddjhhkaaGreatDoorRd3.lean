/- ops.May, ops.Decode: where the bytes of good operations stand. -/
import Derived.Test.YteeiacfddjhhkaaGreatDoorRd2
import Derived.Test.YteeiacfddjhhkaaGreatDoorOpsCheck
namespace Go.Proofs.YteeiacfddjhhkaaGreatDoor
open Go.RowKit
set_option maxRecDepth 100000

theorem opsC_snoc (ops : List POp) (k : Nat) {o : POp} (hk : k < ops.length) (h : ops[k]? = some o) : opsC (ops.take (k + 1)) = opsC (ops.take k) ++ opC o := by
  have e : ops[k] = o := Option.some.inj ((List.getElem?_eq_getElem hk).symm.trans h)
  simp [opsC, List.take_succ_eq_append_getElem hk, e]
theorem own_kept {S : Nat → Prop} {w w1 : World} {base : Nat} {e : TypeId} {size n : Nat} {v : Value} {xs : List Value} (h : w.ownsRow base e size v n xs) (hk : Kept S w w1) (hs : ∀ k, base ≤ k → ¬ S k) : w1.ownsRow base e size v n xs :=
  own_move h fun k hv => hk.block k (h.lt k hv).2 (hs k (h.lt k hv).1)
theorem opsMay_ok (o : POp) (w : World) (hg : goodO o = true) (hks : o.key.size ≤ 1000000) :
    Calls Tryz.prog 96 #[opV o] w fun e w' => e = .returned (.bool true) ∧ Below w.heap.size w w' := by
  obtain ⟨kind, key, n, lo⟩ := o
  have hp := fun w => plain_any ⟨kind, key, n, lo⟩ w
  have hk := fun w => key_any key hks w
  unfold goodO at hg
  obtain ⟨h1, h2⟩ : plainO ⟨kind, key, n, lo⟩ = true ∧ keyS key.data.toList = true := by simpa using hg
  rw [h1] at hp
  rw [h2] at hk
  clear hg h1 h2
  show Calls Tryz.prog 96 #[.agg #[.int .i64 kind, .string key, .int .i64 n, .int .i64 lo]] w _
  have hb0 := Lib.hid (heap_alloc_new w (.cells #[.int .i64 kind, .string key, .int .i64 n, .int .i64 lo] 108))
  have hB0 := Lib.hid (below_alloc (Below.refl _ w) (.cells #[.int .i64 kind, .string key, .int .i64 n, .int .i64 lo] 108))
  go_enter Tryz.func96, Tryz.ntmps96
  go_wp2_with fail
  refine (hp _).mono ?_
  rintro e w1 ⟨rfl, hB1_⟩
  have hB1 := Lib.hid (bnext hB0.out hB1_)
  have x1 : w1.cell? ⟨w.heap.size, 1, none⟩ = some (.string key) := by rw [block_cell (block_below hB1_ hb0.out)]; rfl
  clear hB1_ hb0
  go_wp2_with fail
  refine (hk _).mono ?_
  rintro e w2 ⟨rfl, hB2_⟩
  have hB2 := Lib.hid (bnext hB1.out hB2_)
  clear hB2_ x1
  go_wp2_with fail
  go_ret
  exact ⟨rfl, hB2.out⟩

theorem Tryz.infoOp : (Tryz.prog.info? 108).map (fun i => (i.zero, i.size, i.bytes)) = some (some (.agg #[.int .i64 0, .string ⟨#[]⟩, .int .i64 0, .int .i64 0]), 4, 40) := by kernel_rfl
theorem kept_below {S : Nat → Prop} {w0 w w1 : World} (h : Below w0.heap.size w0 w) (hk : Kept S w w1) (hs : ∀ k, S k → w0.heap.size ≤ k) : Below w0.heap.size w0 w1 :=
  h.trans (hk.to_below h.size hs)
theorem opsDec_rd (ops : List POp) (v : Value) (w : World) (hl : ops.length ≤ 64) (hops : ∀ o ∈ ops, o.ok ∧ goodO o = true ∧ o.key.size ≤ 16) (hR : RB w v (opsB ops)) (hlen : (opsB ops).length ≤ 100000) :
    Calls Tryz.prog 71 #[v] w fun e w' => ∃ A c, e = .returned (.tuple #[.slice A ops.length c, .int .i64 0]) ∧ w'.ownsRow w.heap.size 108 4 (.slice A ops.length c) ops.length (opsC ops) ∧ Below w.heap.size w w' := by
  obtain ⟨A, c, hv, _⟩ := id hR
  have hRR := Lib.hid hR
  have hOPS := Lib.hid hops
  have hLEN := Lib.hid hlen
  subst hv
  clear hR hops hlen
  go_enter Tryz.func71, Tryz.ntmps71
  go_wp2_with fail
  refine (of_any _ _ _ hRR.out (by simp [opsB, natB]) hLEN.out).mono ?_
  rintro e w1 ⟨p, g, rfl, hI1_, hp, hB1_⟩
  have hI1 := Lib.hid hI1_
  have hB1 := Lib.hid hB1_
  clear hI1_ hB1_
  go_wp2_with fail
  refine (Nat_rd ops.length _ p g _ hI1.out (by omega)).mono ?_
  rintro e w2 ⟨rfl, hI2_, hK2_⟩
  have hI2 := Lib.hid hI2_
  have hB2 := Lib.hid (kept_below hB1.out hK2_ (by rintro _ rfl; exact hp))
  have hpl := Lib.hid (show p < w2.heap.size by obtain ⟨_, _, _, _, hb, _⟩ := hI2_; exact lt_of_block hb)
  clear hI2_ hK2_ hI1
  go_wp2_with fail
  go_loopw [6, 7, 8, 9] (fun s i _ _ wr => ∃ k : Nat, k ≤ ops.length ∧ i = .int .u64 k ∧ wr.ownsRow (p + 1) 108 4 s k (opsC (ops.take k)) ∧ InAt wr p g ((ops.drop k).map opB).flatten ∧ Below w.heap.size w wr ∧ p < wr.heap.size) (fun _ i _ _ _ => ops.length - (intOf i).toNat)
  case atStart => exact ⟨0, by omega, rfl, own_nil _ _ _ _, hI2.out, hB2.out, hpl.out⟩
  case round =>
    obtain ⟨k, hk, rfl, hO_, hI_, hB_, hpl_⟩ := hrel
    have hO := Lib.hid hO_
    have hB := Lib.hid hB_
    have hP := Lib.hid hpl_
    by_cases hlt : k < ops.length
    · obtain ⟨o, ho⟩ : ∃ o, ops[k]? = some o := ⟨_, List.getElem?_eq_getElem hlt⟩
      obtain ⟨ho1, ho2, ho3⟩ := hOPS.out o (List.mem_of_getElem? ho)
      have hX := Lib.hid ho
      have hkd : ops.drop k = o :: ops.drop (k + 1) := by
        rw [List.drop_eq_getElem_cons hlt]
        congr 1
        exact Option.some.inj ((List.getElem?_eq_getElem hlt).symm.trans ho)
      have hI := Lib.hid (show InAt wr p g (natB o.kind.toNat ++ (strB o.key.data.toList ++ (numB o.n ++ (numB o.lo ++ ((ops.drop (k + 1)).map opB).flatten)))) by
        rw [hkd, List.map_cons, List.flatten_cons, opB] at hI_
        simpa using hI_)
      have hkind := plainO_kind (show plainO o = true by unfold goodO at ho2; simp at ho2; exact ho2.1)
      have hmay := Lib.hid (opsMay_ok o · ho2 (by omega))
      obtain ⟨kind, ⟨key⟩, n, lo⟩ := o
      obtain ⟨hok1, hok2, hok3⟩ := ho1
      simp only at hkind hok1 hok2 hok3 ho3
      have hkt : ((kind.toNat : Nat) : Int) = kind := by omega
      have hk99 : kind ≤ 99 := by omega
      clear hI_ hO_ hB_ hpl_ ho hkd ho2
      go_wp2_with fail
      refine (Err_rd _ p g _ hI.out).mono ?_
      rintro e w3 ⟨rfl, hB3_⟩
      have hB3 := Lib.hid hB3_
      clear hB3_
      go_wp2_with fail
      refine (Nat_rd kind.toNat _ p g _ (hI.out.later hB3.out) (by omega)).mono ?_
      rintro e w4 ⟨rfl, hI4_, hK4_⟩
      have hI4 := Lib.hid hI4_
      have hK4 := Lib.hid hK4_
      clear hI4_ hK4_
      rw [hkt]
      go_wp2_with fail
      refine (Str_rd _ _ 16 p g _ hI4.out (by omega) (by show key.toList.length ≤ 16; rw [Array.length_toList]; exact ho3)).mono ?_
      rintro e w5 ⟨rfl, hI5_, hK5_⟩
      have hI5 := Lib.hid hI5_
      have hK5 := Lib.hid hK5_
      clear hI5_ hK5_
      go_wp2_with fail
      refine (Num_rd n hok2 _ p g _ hI5.out).mono ?_
      rintro e w6 ⟨rfl, hI6_, hK6_⟩
      have hI6 := Lib.hid hI6_
      have hK6 := Lib.hid hK6_
      clear hI6_ hK6_
      go_wp2_with fail
      refine (Num_rd lo hok3 _ p g _ hI6.out).mono ?_
      rintro e w7 ⟨rfl, hI7_, hK7_⟩
      have hKall : Kept (· = p) w3 w7 := ((hK4.out.trans hK5.out (fun _ _ h => h)).trans hK6.out (fun _ _ h => h)).trans hK7_ (fun _ _ h => h)
      have hI7 := Lib.hid hI7_
      have hB7 := Lib.hid (kept_below (bnext hB.out hB3.out) hKall (by rintro _ rfl; exact hp))
      have hO7 := Lib.hid (own_kept (own_below hO.out hB3.out) hKall (by rintro j hj rfl; omega))
      have hP7 := Lib.hid (show p < w7.heap.size from Nat.lt_of_lt_of_le hP.out (Nat.le_trans hB3.out.size hKall.size))
      clear hKall hI7_ hK7_ hK4 hK5 hK6 hI4 hI5 hI6 hO hB3 hI
      have hb8 := Lib.hid (heap_alloc_new w7 (.cells #[.int .i64 kind, .string ⟨key⟩, .int .i64 n, .int .i64 lo] 108))
      have hB8 := Lib.hid (below_alloc (Below.refl _ w7) (.cells #[.int .i64 kind, .string ⟨key⟩, .int .i64 n, .int .i64 lo] 108))
      go_wp2_with fail
      refine (Err_rd _ p g _ (hI7.out.later hB8.out)).mono ?_
      rintro e w9 ⟨rfl, hB9_⟩
      have hB9 := Lib.hid (bnext hB8.out hB9_)
      have hb9 := block_below hB9_ hb8.out
      have x0 : w9.cell? ⟨w7.heap.size, 0, none⟩ = some (.int .i64 kind) := by rw [block_cell hb9]; rfl
      have x1 : w9.cell? ⟨w7.heap.size, 1, none⟩ = some (.string ⟨key⟩) := by rw [block_cell hb9]; rfl
      have x2 : w9.cell? ⟨w7.heap.size, 2, none⟩ = some (.int .i64 n) := by rw [block_cell hb9]; rfl
      have x3 : w9.cell? ⟨w7.heap.size, 3, none⟩ = some (.int .i64 lo) := by rw [block_cell hb9]; rfl
      have hbb := Lib.hid hb9
      clear hB9_ hb9 hb8 hB8
      go_wp2_with fail
      refine (hmay.out _).mono ?_
      rintro e w10 ⟨rfl, hB10_⟩
      have hB10 := Lib.hid (bnext hB9.out hB10_)
      have hb9 := block_below hB10_ hbb.out
      clear x0 x1 x2 x3
      have x0 : w10.cell? ⟨w7.heap.size, 0, none⟩ = some (.int .i64 kind) := by rw [block_cell hb9]; rfl
      have x1 : w10.cell? ⟨w7.heap.size, 1, none⟩ = some (.string ⟨key⟩) := by rw [block_cell hb9]; rfl
      have x2 : w10.cell? ⟨w7.heap.size, 2, none⟩ = some (.int .i64 n) := by rw [block_cell hb9]; rfl
      have x3 : w10.cell? ⟨w7.heap.size, 3, none⟩ = some (.int .i64 lo) := by rw [block_cell hb9]; rfl
      have hB11 := Lib.hid (bnext hB10.out (below_alloc (Below.refl _ w10) (.cells #[.int .i64 kind, .string ⟨key⟩, .int .i64 n, .int .i64 lo] 108)))
      clear hB10_ hb9 hbb hB9
      go_wp2_with (at_builtin; refine list_of_wp rfl ?_; refine wp_append_row (.tmp 46) (.tmp 48) 29 rfl (p + 1) 108 _ 4 40 Tryz.underlying29 Tryz.infoOp rfl (by decide) (by decide) u6 k (opsC (ops.take k)) rfl (own_below hO7.out hB11.out) (some ⟨w10.heap.size, 0, none⟩) 1 1 (opC ⟨kind, ⟨key⟩, n, lo⟩) rfl (fun h => by cases h) (Nat.le_refl _) rfl (RowAt.made rfl) (by simp [opC, Value.oneCell']) (by omega) (Nat.le_trans hP7.out hB11.out.size) ?_)
      intro v9 w12 hO12_ hg12_ _
      have hO12 := Lib.hid hO12_
      have hB12 := Lib.hid ((hB7.out.trans (Below.mono hB11.out hB7.out.size)).grown hg12_ (hB7.out.trans (Below.mono hB11.out hB7.out.size)).size (fun j hj => by have := own_ge hO7.out j hj; omega))
      have hI12 := Lib.hid ((hI7.out.later hB11.out).move fun j hj => hg12_.block j (Nat.lt_of_le_of_lt hj (hI7.out.later hB11.out).lt) (fun h => by have := own_ge hO7.out j h.symm; omega))
      have hP12 := Lib.hid hI12.out.lt
      clear hO12_ hg12_ x0 x1 x2 x3
      go_wp2_with fail
      go_roundw
      case rel => exact ⟨k + 1, by omega, by go_num, by rw [opsC_snoc _ _ hlt hX.out]; exact hO12.out, hI12.out, hB12.out, hP12.out⟩
      case measure => simp [intOf]; omega
    · have hkk : k = ops.length := by omega
      subst hkk
      have hO9 := hO.out
      rw [List.take_length] at hO9
      have hI9 := hI_
      rw [List.drop_length] at hI9
      have hO := Lib.hid hO9
      have hI := Lib.hid hI9
      clear hO9 hI9 hO_ hI_ hB_ hpl_
      obtain ⟨A2, c2, rfl⟩ := own_slice hO.out
      go_wp2_with fail
      refine (End_rd p g _ hI.out).mono ?_
      rintro e w3 ⟨rfl, hB3_⟩
      have hB3 := Lib.hid (bnext hB.out hB3_)
      have hO3 := Lib.hid (own_lower (own_below hO.out hB3_) (show w.heap.size ≤ p + 1 by omega))
      clear hB3_
      go_wp2_with fail
      refine bodyPost_ret (v := .tuple #[.slice A2 ops.length c2, .int .i64 0]) ?_ rfl ⟨_, _, rfl, hO3.out, hB3.out⟩
      simp [results, Tryz.results71, go_sem]
end Go.Proofs.YteeiacfddjhhkaaGreatDoor
