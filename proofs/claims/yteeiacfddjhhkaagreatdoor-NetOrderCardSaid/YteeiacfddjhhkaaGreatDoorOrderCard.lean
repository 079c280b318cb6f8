/- NetOrder: for every list of messages and every list of numbers: packets that are only sent and delivered, always the first one, come in the order in which they were sent, each once: the call returns true; the arguments read as they did; memory that was there is as it was. Conditions: the package variable errors.errorType holds what its text lays (tied by the card); nothing else. -/
import Derived.Test.YteeiacfddjhhkaaGreatDoorOrder
import Derived.Test.YteeiacfddjhhkaaGreatDoorLaid
import Derived.Test.YteeiacfddjhhkaaGreatDoorTie
import Derived.Test.YteeiacfddjhhkaaGreatDoorCards
import Derived.SevenTiedAt
import Derived.WideKeyArgs
namespace Go.Proofs.YteeiacfddjhhkaaGreatDoor
open Go.ChangeShapes Go.WideShapes Go.RowKit
set_option maxRecDepth 100000

theorem Tryz.laidOut' : laidOutB Tryz.prog = true := by kernel_rfl
section
variable {H : Type} {enc : TypeId × Value → H} {w : World} {base : Nat} {sp : Nat → Bool} {held : Bool}
theorem ints_part {fuel : Nat} {v : Value} {x : DataW H × List MemPlace} (h : DataW.trod enc Tryz.prog w base sp held fuel 23 [v] = some x) : ∃ A c, ∃ l : List Int, v = .slice A l.length c ∧ RowAt w A (i64s l) ∧ l.length ≤ c ∧ c ≤ maxLen ∧ ∀ n ∈ l, i64ok n := by
  rcases open_ints Tryz.underlying23 Tryz.underlying3 (by kernel_rfl) h with ⟨hc, _⟩ | ⟨a, len, cap, zs, hc, _, hlc, hcm, hzl, _, hcell, hwf⟩
  · exact ⟨none, 0, [], by simpa using hc, RowAt.nil _ _, by simp, by simp, by simp⟩
  · have hlz : len ≤ zs.length := by rw [hzl]; split <;> omega
    refine ⟨some a, cap, zs.take len, ?_, ?_, ?_, hcm, fun n hn => wf_i64 (hwf n (List.mem_of_mem_take hn))⟩
    · rw [List.length_take, Nat.min_eq_left hlz]; simpa using hc
    · intro j u hu
      rw [i64s, List.getElem?_map, List.getElem?_take] at hu
      split at hu
      · rename_i hj
        refine ⟨a, rfl, ?_⟩
        rw [hcell j (by omega)]
        rw [List.getElem?_eq_getElem (by omega)] at hu
        simp only [Option.map_some, Option.some.injEq] at hu
        rw [← hu, List.getD_eq_getElem?_getD, List.getElem?_eq_getElem (by omega)]
        rfl
      · simp at hu
    · rw [List.length_take, Nat.min_eq_left hlz]; exact hlc
end
theorem netOrder_lifted (os : Os) (started : os.Started) (H : Type) (enc : TypeId × Value → H) :
    ReturnsInHanded {} Tryz.checked os 3 .any (fun w args => (Rows.netOrderSpec.pre enc Tryz.prog Tryz.f3 [] false w args ∧ laidMetH Tryz.prog laidL w) ∧ sizedMet enc Tryz.prog Tryz.f3 (OpenSpec.ofChange Rows.netOrderSpec) false w args)
      (Rows.netOrderSpec.post enc Tryz.prog Tryz.f3 false true false false) := by
  refine returnsInHanded_of_change_and (C := Tryz.checked) (X := fun w _ => laidMetH Tryz.prog laidL w) (fun _ _ _ hh h => h.of_heap hh) Tryz.own started (by kernel_rfl) Tryz.func3
    (ChangeSpec.witness_at (enc := enc) (C := Tryz.checked) (os := os) (X := fun w _ => laidMetH Tryz.prog laidL w) false (laidWorld os) #[.slice none 0 0, .slice none 0 0] 8 rfl (by kernel_rfl) (by kernel_rfl) (by kernel_rfl) (by kernel_rfl) (by kernel_rfl) (laidWorld_met os _)) ?_
  intro W base args ds gs before hval0 hW _ _ hL _
  have hval : ∀ (j : Nat) t v, Tryz.f3.params[j]? = some t → args[j]? = some v → Value.okWide Tryz.prog W .any base t v := hval0
  have hW' := hW
  obtain ⟨p, q, hA0, hV0, rfl, hfz, hnd⟩ := hW
  have hA : DataW.TrodAll enc Tryz.prog W 0 (fun _ => true) true Tryz.f3.params.toList args.toList ds p := hA0
  have hV : DataW.TrodVars enc Tryz.prog W (fun _ => true) [] gs q := hV0
  rw [Tryz.params3] at hA hval
  obtain ⟨v0, v1, d0, d1, p0, p1, rfl, rfl, rfl, h0, h1⟩ := trodAll_two hA
  obtain ⟨A0, n0, c0, rfl⟩ := okWide_slice Tryz.underlying22 (hval 0 22 v0 rfl rfl)
  obtain ⟨A1, n1, c1, rfl⟩ := okWide_slice Tryz.underlying23 (hval 1 23 v1 rfl rfl)
  obtain ⟨f0, hf0⟩ := id h0
  obtain ⟨f1, hf1⟩ := id h1
  obtain ⟨L, cl, l, hv0, hr, hlc, hcm, hin⟩ := msgs_part (v := .slice A0 n0 c0) hf0
  obtain ⟨Bv, cb, bys, hv1, hby, hbc, hbm, hbo⟩ := ints_part (v := .slice A1 n1 c1) hf1
  cases hv0
  cases hv1
  have hg := gok_of_laid hL
  obtain ⟨rfl, rfl⟩ : gs = [] ∧ q = [] := by
    cases gs with
    | nil => exact ⟨rfl, hV⟩
    | cons g r => exact absurd hV (by intro h; cases h)
  have e1 : Rows.netOrderSpec.fn H ([d0, d1] ++ []) = { results := [.lit (.bool true)], args := [d0, d1] } := by simp [Rows.netOrderSpec]
  refine (NetOrder_walk l A0 c0 bys A1 c1 W hg hr (Nat.le_trans hlc hcm) hin hby (Nat.le_trans hbc hbm) hbo).mono fun e W' ⟨he, hB⟩ => ?_
  subst he
  have hlt : ∀ x ∈ (p0 ++ p1) ++ [], x.block < W.heap.size := fun x hx => hW'.lt x hx
  refine ⟨_, rfl, _, _, _, [], p0 ++ p1, [], hW', ?_, ?_, ?_, hB.frame _, fun h => by cases h⟩
  · rw [e1]; exact trodAll_mk1 (shut_bool Tryz.underlying4 true)
  · rw [e1]
    exact trodAll_mk2 (WideElems.Trod_stays Tryz.laidOut' (by kernel_rfl) (of_decide_eq_true (by kernel_rfl)) h0 (fun x hx => hB.same (hlt x (by simp [hx]))) (fun x hx => by simpa using hlt x (by simp [hx])))
      (WideElems.Trod_stays Tryz.laidOut' (by kernel_rfl) (of_decide_eq_true (by kernel_rfl)) h1 (fun x hx => hB.same (hlt x (by simp [hx]))) (fun x hx => by simpa using hlt x (by simp [hx])))
  · rw [e1]; rfl
theorem netOrder_holds : Rows.NetOrderSaid :=
  OpenClaim.holds_of_wide 3 Tryz.f3 rfl rfl rfl rfl rfl rfl rfl ⟨rfl, rfl, rfl, rfl, rfl⟩ rfl rfl rfl rfl rfl (by kernel_rfl) Tryz.func3 (by kernel_rfl)
    (of_decide_eq_true (by kernel_rfl)) (by unfold Func.isWrapper; rw [if_neg (of_decide_eq_false (by kernel_rfl))]; exact ⟨rfl, rfl⟩)
    (fun os started H enc _ => netOrder_lifted os started H enc)
theorem netOrder_card : Rows.NetOrderCardSaid :=
  Claim7.holds_tied_plain_at .later [] [.handle] true (true, "8b7263071db713470b76dcf6f92dafcf9d894d50fffd54f95d3ae0b52084ea02") true
    netOrder_holds (fun _ h => by cases h) (by kernel_rfl) (fun _ h => by cases h) netOrder_row_tie rfl ⟨rfl, rfl⟩ (by kernel_rfl) rfl
    (fun f fn hf hfn => by
      obtain rfl : f = 3 := Option.some.inj ((show Tryz.prog.funcNamed "byroad/byroadlaw20.NetOrder" = some 3 by kernel_rfl).symm.trans hf) |>.symm
      obtain rfl : fn = Tryz.f3 := (Option.some.inj (Tryz.func3.symm.trans hfn)).symm
      exact ⟨by kernel_rfl, fun j t ht => by
        rw [Tryz.params3] at ht
        have hm : t ∈ [22, 23] := by simpa using Array.mem_of_getElem? ht
        have hall : ([22, 23].all fun u => !Tryz.prog.wantsStandIn u) = true := by kernel_rfl
        exact (show Tryz.prog.wantsStandIn t = false by simpa using List.all_eq_true.1 hall t hm)⟩)
    (by kernel_rfl)
#print axioms netOrder_card
end Go.Proofs.YteeiacfddjhhkaaGreatDoor
