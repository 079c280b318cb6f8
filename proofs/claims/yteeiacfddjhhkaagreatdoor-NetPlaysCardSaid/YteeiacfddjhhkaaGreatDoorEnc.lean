/- mess.Encode returns the bytes encM of its message, for every message that can be read. -/
import Derived.Test.YteeiacfddjhhkaaGreatDoorOne
import Derived.Test.YteeiacfddjhhkaaGreatDoorMay
namespace Go.Proofs.YteeiacfddjhhkaaGreatDoor
open Go.RowKit
set_option maxRecDepth 100000

def i64s (l : List Int) : List Value := l.map (Value.int .i64)
/-- A message's slices are read; its operations are of numbers that fit. -/
structure MsgR (w : World) (m : PMsg) (A : Option Addr) (c : Nat) (B : Option Addr) (d : Nat) : Prop where
  told : RowAt w A (i64s m.told)
  ops : RowAt w B (opsC m.ops)
  toldle : m.told.length ≤ 1000000
  opsle : m.ops.length ≤ 1000000
  keys : ∀ o ∈ m.ops, o.key.size ≤ 1000000
  toldok : ∀ n ∈ m.told, i64ok n
  opsok : ∀ o ∈ m.ops, o.ok
  nums : i64ok m.kind ∧ i64ok m.from_ ∧ i64ok m.to_ ∧ i64ok m.g ∧ i64ok m.node ∧ i64ok m.try_ ∧ i64ok m.low ∧ i64ok m.code ∧ i64ok m.ticket
theorem MsgR.below {w w' : World} {m : PMsg} {A : Option Addr} {c : Nat} {B : Option Addr} {d : Nat} (h : MsgR w m A c B d) (hb : Below w.heap.size w w') : MsgR w' m A c B d :=
  ⟨h.told.below hb, h.ops.below hb, h.toldle, h.opsle, h.keys, h.toldok, h.opsok, h.nums⟩

set_option maxHeartbeats 2000000 in
theorem enc_any (m : PMsg) (A : Option Addr) (c : Nat) (B : Option Addr) (d : Nat) (w : World) (hr : MsgR w m A c B d) (hG : GOk w) (hl0 : m.ops.length ≤ 1000000) (hl1 : m.told.length ≤ 1000000) (hk0 : ∀ o ∈ m.ops, o.key.size ≤ 1000000) :
    Calls Tryz.prog 33 #[.agg (msgA m A c B d)] w (RetB w (encM m)) := by
  have hMay := fun W hr hG => may_any m A c B d W hr hl0 hl1 hk0 hG
  have hMAY := Lib.hid hMay
  have hcase : (mayM m = false ∧ encM m = []) ∨ (mayM m = true ∧ encM m = wrapB (bodyM m)) := by
    cases h : mayM m
    · exact .inl ⟨rfl, by rw [encM, h]; rfl⟩
    · exact .inr ⟨rfl, by rw [encM, h]; rfl⟩
  have hCASE := Lib.hid hcase
  clear hMay hcase
  obtain ⟨kind, from_, to_, g, node, try_, low, code, ticket, told, ops⟩ := m
  have hR := Lib.hid hr
  have hGG := Lib.hid hG
  have hl1 : told.length ≤ 1000000 := hr.toldle
  have hl0 : ops.length ≤ 1000000 := hr.opsle
  clear hr hG hk0
  show Calls Tryz.prog 33 #[.agg #[.int .i64 kind, .int .i64 from_, .int .i64 to_, .int .i64 g, .int .i64 node, .int .i64 try_, .int .i64 low, .int .i64 code, .int .i64 ticket, .slice A told.length c, .slice B ops.length d]] w _
  have hb0 := Lib.hid (heap_alloc_new w (.cells #[.int .i64 kind, .int .i64 from_, .int .i64 to_, .int .i64 g, .int .i64 node, .int .i64 try_, .int .i64 low, .int .i64 code, .int .i64 ticket, .slice A told.length c, .slice B ops.length d] 37))
  have hB0 := Lib.hid (below_alloc (Below.refl _ w) (.cells #[.int .i64 kind, .int .i64 from_, .int .i64 to_, .int .i64 g, .int .i64 node, .int .i64 try_, .int .i64 low, .int .i64 code, .int .i64 ticket, .slice A told.length c, .slice B ops.length d] 37))
  go_enter Tryz.func33, Tryz.ntmps33
  go_wp2_with fail
  refine (hMAY.out _ (hR.out.ops.below hB0.out) (hGG.out.below hB0.out)).mono ?_
  rintro en w1 ⟨rfl, hB1_⟩
  have hB1 := Lib.hid (bnext hB0.out hB1_)
  have hb1 := Lib.hid (block_below hB1_ hb0.out)
  clear hB1_
  rcases hCASE.out with ⟨hm, he⟩ | ⟨hm, he⟩
  · have hEQ := Lib.hid he
    rw [hm]
    clear hm he
    go_wp2_with fail
    go_ret
    rw [hEQ.out]
    exact RetB.mk (v := .slice none 0 0) rfl (OB.nil _ _) hB1.out
  have hEQ := Lib.hid he
  rw [hm]
  have hF := Lib.hid (mayM_facts hm)
  have hBL := Lib.hid (bodyM_len hm)
  clear hm he
  have x0 : w1.cell? ⟨w.heap.size, 0, none⟩ = some (.int .i64 kind) := by rw [block_cell hb1.out]; rfl
  have x1 : w1.cell? ⟨w.heap.size, 1, none⟩ = some (.int .i64 from_) := by rw [block_cell hb1.out]; rfl
  have x2 : w1.cell? ⟨w.heap.size, 2, none⟩ = some (.int .i64 to_) := by rw [block_cell hb1.out]; rfl
  have x3 : w1.cell? ⟨w.heap.size, 3, none⟩ = some (.int .i64 g) := by rw [block_cell hb1.out]; rfl
  have x4 : w1.cell? ⟨w.heap.size, 4, none⟩ = some (.int .i64 node) := by rw [block_cell hb1.out]; rfl
  have x5 : w1.cell? ⟨w.heap.size, 5, none⟩ = some (.int .i64 try_) := by rw [block_cell hb1.out]; rfl
  have x6 : w1.cell? ⟨w.heap.size, 6, none⟩ = some (.int .i64 low) := by rw [block_cell hb1.out]; rfl
  have x7 : w1.cell? ⟨w.heap.size, 7, none⟩ = some (.int .i64 code) := by rw [block_cell hb1.out]; rfl
  have hIB := Lib.hid (below_alloc (Below.refl _ w1) (.cells #[.int .i64 kind, .int .i64 from_, .int .i64 to_, .int .i64 g, .int .i64 node, .int .i64 try_, .int .i64 low, .int .i64 code] 3))
  have hrow := Lib.hid (RowAt.made (w := w1) (cs := #[.int .i64 kind, .int .i64 from_, .int .i64 to_, .int .i64 g, .int .i64 node, .int .i64 try_, .int .i64 low, .int .i64 code]) (T := 3) (xs := i64s (numsM ⟨kind, from_, to_, g, node, try_, low, code, ticket, told, ops⟩)) rfl)
  go_wp2_with fail
  generalize w1.alloc (.cells #[.int .i64 kind, .int .i64 from_, .int .i64 to_, .int .i64 g, .int .i64 node, .int .i64 try_, .int .i64 low, .int .i64 code] 3) = W at *
  obtain ⟨nums, hnums⟩ : ∃ l, numsM ⟨kind, from_, to_, g, node, try_, low, code, ticket, told, ops⟩ = l := ⟨_, rfl⟩
  have hn8 : nums.length = 8 := by rw [← hnums]; rfl
  have hN8 := Lib.hid hn8
  have hNums := Lib.hid hnums
  have hnr : ∀ n ∈ nums, 0 ≤ n ∧ n < 2147483648 := by
    have f := hF.out
    have f1 := f.kind
    have f2 := f.from_
    have f3 := f.to_
    have f4 := f.g
    have f5 := f.node
    have f6 := f.try_
    have f7 := f.low
    have f8 := f.code
    rw [← hnums]
    simp only [numsM, List.mem_cons, List.not_mem_nil, or_false]
    simp only at f1 f2 f3 f4 f5 f6 f7 f8
    rintro n (rfl | rfl | rfl | rfl | rfl | rfl | rfl | rfl) <;> omega
  have hNR := Lib.hid hnr
  rw [hnums] at hrow
  have hbW := Lib.hid (block_below hIB.out hb1.out)
  have hBW := Lib.hid (bnext hB1.out hIB.out)
  clear hn8 hnums hnr x0 x1 x2 x3 x4 x5 x6 x7 hIB hb1 hb0 hB0
  go_loopw [3, 5, 32] (fun s _ i wr => ∃ k : Nat, k ≤ 8 ∧ i = .int .i64 k ∧ OB wr W.heap.size s ((nums.take k).map natI).flatten ∧ Below W.heap.size W wr) (fun _ _ i _ => 8 - (intOf i).toNat)
  case atStart => exact ⟨0, by omega, rfl, OB.nil _ _, Below.refl _ _⟩
  case round =>
    obtain ⟨k, hk, rfl, hO_, hB_⟩ := hrel
    have hO := Lib.hid hO_
    have hB := Lib.hid (bnext hBW.out hB_)
    have hBr := Lib.hid hB_
    have hrow2 := Lib.hid (hrow.out.below hB_)
    have hbr := Lib.hid (block_below hB_ hbW.out)
    clear hO_ hB_
    by_cases hlt : k < 8
    · have hk8 : k < nums.length := by rw [hN8.out]; exact hlt
      obtain ⟨x, hx⟩ : ∃ x, nums[k]? = some x := ⟨_, List.getElem?_eq_getElem hk8⟩
      obtain ⟨ad, had, hc⟩ := hrow2.out k (.int .i64 x) (by rw [i64s, List.getElem?_map, hx]; rfl)
      obtain rfl : _ = ad := by simpa using had
      rw [add_plain] at hc
      have hxr := hNR.out x (List.mem_of_getElem? hx)
      have hX := Lib.hid hx
      obtain ⟨hx0, hx1⟩ := hxr
      clear had hx
      go_wp2_with fail
      refine (nat_int x hx0 (by omega) _).mono ?_
      rintro en w2 ⟨A2, d2, rfl, hO2_, hB2_⟩
      have hO2 := Lib.hid hO2_
      have hB2 := Lib.hid hB2_
      clear hO2_ hB2_ hc
      go_wp2_with (at_builtin; refine list_of_wp rfl ?_; refine wp_append_B (.tmp 36) (.tmp 39) rfl W.heap.size u3 (.slice A2 (natB x.toNat).length d2) _ (natB x.toNat) _ rfl rfl (hO.out.below hB2.out) rfl (RB.of_own hO2.out) ?c1 (bnext hBr.out hB2.out).size ?_)
      case c1 =>
        have h1 := natB_length x.toNat
        have h2 := flat_le natI 9 (nums.take k) (k := 8) (by simp; omega) (fun n _ => natB_length _)
        omega
      intro v3 w3 hO3_ hg3_ _
      have hO3 := Lib.hid hO3_
      have hBr3 : Hid (Below W.heap.size W w3) := Lib.hid ((bnext hBr.out hB2.out).grown hg3_ (bnext hBr.out hB2.out).size (own_ge hO.out))
      clear hO3_ hg3_
      go_wp2_with fail
      go_roundw
      case rel => exact ⟨k + 1, by omega, by go_num, by rw [flat_snoc_opt _ _ _ _ hX.out]; have h := hO3.out; rw [← List.map_take] at h; exact h, hBr3.out⟩
      case measure => simp [intOf]; omega
    · go_wp2_with fail
      have hO9 := hO.out
      rw [show nums.take k = nums from List.take_of_length_le (by rw [hN8.out]; omega)] at hO9
      obtain ⟨bs1, hbs1⟩ : ∃ l, (nums.map natI).flatten = l := ⟨_, rfl⟩
      have hbl1 := flat_le natI 9 nums (k := 8) (by rw [hN8.out]; omega) (fun n _ => natB_length _)
      rw [hbs1] at hO9 hbl1
      have hBS1 := Lib.hid hbs1
      have hO1 := Lib.hid (show OB wr.drew W.heap.size u3 bs1 from hO9)
      clear hbs1 hO9 hO hrow2
      have f9 := hF.out.ticket
      simp only at f9
      have f10 := hR.out.nums.2.2.2.2.2.2.2.2
      simp only at f10
      obtain ⟨f11, f12⟩ := f10
      have x8 : wr.cell? ⟨w.heap.size, 8, none⟩ = some (.int .i64 ticket) := by rw [block_cell hbr.out]; rfl
      have x9 : wr.cell? ⟨w.heap.size, 9, none⟩ = some (.slice A told.length c) := by rw [block_cell hbr.out]; rfl
      have twr : IntKind.u64.wrap ticket = ticket := by rw [IntKind.wrap_u64]; omega
      have lwr : IntKind.u64.wrap (told.length : Int) = told.length := by rw [IntKind.wrap_u64]; omega
      obtain ⟨bs2, hbs2⟩ : ∃ l, natI ticket ++ natB told.length = l := ⟨_, rfl⟩
      have hfl : Hid ([natI ticket, natB told.length].flatten = bs2) := Lib.hid (by rw [← hbs2]; simp)
      have hbl2 : bs2.length ≤ 18 := by
        have h1 := natB_length ticket.toNat
        have h2 := natB_length told.length
        rw [← hbs2, List.length_append]
        unfold natI
        omega
      have hBS2 := Lib.hid hbs2
      clear hbs2
      have hlt64 : told.length < 18446744073709551616 := by omega
      have htk64 : ticket < 18446744073709551616 := by omega
      have hflat : Hid (bs2.length ≤ 140737488355328) := Lib.hid (by omega)
      have hb9 : Hid (bs1.length + bs2.length ≤ 140737488355328) := Lib.hid (by omega)
      have hne : Hid (some w.heap.size ≠ u3.ownBlock) := Lib.hid (fun h => by have h1 := own_ge hO1.out _ h.symm; have h2 := lt_of_block hbW.out; omega)
      go_wp2_with fail
      go_region_held3 (fun w' => w'.cell? ⟨w.heap.size, 8, none⟩ = some (.int .i64 ticket) ∧ w'.cell? ⟨w.heap.size, 9, none⟩ = some (.slice A told.length c))
        (first | (go_split_ands; exact ⟨hG9.out.cell (by assumption) hne.out, hG9.out.cell (by assumption) hne.out⟩) | (go_split_ands; exact ⟨cell_below hU6.out (by assumption), cell_below hU6.out (by assumption)⟩) | (go_split_ands; exact ⟨cell_below hB5.out (by assumption), cell_below hB5.out (by assumption)⟩) | (go_split_ands; exact ⟨cell_below hB4.out (by assumption), cell_below hB4.out (by assumption)⟩) | go_keep)
        ((first
          | (go_at_call 57; have _t := hO4; refine (nat_any told.length hlt64 _).mono ?_; rintro e w5 ⟨A5, d5, rfl, hO5_, hB5_⟩; have hO5 := Lib.hid hO5_; have hB5 := Lib.hid hB5_; clear hO5_ hB5_)
          | (go_at_call 57; refine (nat_int ticket f9 htk64 _).mono ?_; rintro e w4 ⟨A4, d4, rfl, hO4_, hB4_⟩; have hO4 := Lib.hid hO4_; have hB4 := Lib.hid hB4_; clear hO4_ hB4_)
          | (go_at_call 58; refine (seq_any _ [natI ticket, natB told.length] bs2 _ (RP.made2 (RB.of_own (hO4.out.below hB5.out)) (RB.of_own hO5.out)) hfl.out hflat.out).mono ?_; rintro e w6 ⟨A6, d6, rfl, hO6_, hB6_⟩; have hO6 := Lib.hid hO6_; have hU6 := Lib.hid hB6_; have hB6 := Lib.hid (bboxed hB6_); clear hO6_ hB6_)
          | (refine step_of_wp rfl ?_; refine wp_append_B _ _ rfl W.heap.size u3 _ bs1 bs2 (bs1 ++ bs2) rfl rfl (((hO1.out.below hB4.out).below hB5.out).below hB6.out) rfl (RB.of_own hO6.out) hb9.out (bnext (bnext (bnext hBr.out.drew hB4.out) hB5.out) hB6.out).size ?_; intro v9 w9 hO9_ hG9_ _; have hO9 := Lib.hid hO9_; have hG9 := Lib.hid hG9_; clear hO9_ hG9_)))
      go_wp2_with fail
      have hB9 := Lib.hid ((bnext (bnext (bnext hBr.out.drew hB4.out) hB5.out) hB6.out).grown hG9.out (bnext (bnext (bnext hBr.out.drew hB4.out) hB5.out) hB6.out).size (own_ge hO1.out))
      obtain ⟨bs3, hbs3⟩ : ∃ l, bs1 ++ bs2 = l := ⟨_, rfl⟩
      rw [hbs3] at hO9
      have hBS3 := Lib.hid hbs3
      have hbl3 : bs3.length ≤ 90 := by rw [← hbs3, List.length_append]; omega
      have hbr9 := Lib.hid (block_below hB9.out hbW.out)
      have hToldR := Lib.hid (hR.out.told.below hBW.out)
      have f8 := hF.out.told
      simp only at f8
      clear hbs3 hO1 hB4 hB5 hB6 hU6 hO4 hO5 hO6 hne twr lwr x8 x9
      go_loopw [3, 7, 58] (fun s _ i wr => ∃ k : Nat, k ≤ told.length ∧ i = .int .i64 k ∧ OB wr W.heap.size s (bs3 ++ ((told.take k).map numB).flatten) ∧ Below W.heap.size W wr) (fun _ _ i _ => told.length - (intOf i).toNat)
      case atStart => exact ⟨0, by omega, rfl, by simpa using hO9.out, hB9.out⟩
      case round =>
        obtain ⟨k, hk, rfl, hO_, hB_⟩ := hrel
        have hOa := Lib.hid hO_
        have hBa := Lib.hid hB_
        have hBb := Lib.hid hB_
        have hTb := Lib.hid (hToldR.out.below hB_)
        have hbr2 := Lib.hid (block_below hB_ hbW.out)
        clear hO_ hB_
        by_cases hlt : k < told.length
        · obtain ⟨x, hx⟩ : ∃ x, told[k]? = some x := ⟨_, List.getElem?_eq_getElem hlt⟩
          obtain ⟨ad, rfl, hc⟩ := hTb.out k (.int .i64 x) (by rw [i64s, List.getElem?_map, hx]; rfl)
          obtain ⟨hx0, hx1⟩ := hR.out.toldok x (List.mem_of_getElem? hx)
          have hX := Lib.hid hx
          clear hx
          go_wp2_with fail
          refine (num_any x hx0 hx1 _).mono ?_
          rintro en w10 ⟨A2, d2, rfl, hO2_, hB2_⟩
          have hO2 := Lib.hid hO2_
          have hB2 := Lib.hid hB2_
          clear hO2_ hB2_ hc
          have hne : Hid ((bs3 ++ ((told.take k).map numB).flatten).length + (numB x).length ≤ 140737488355328) := Lib.hid (by
            have h1 := numB_length x
            have h2 := flat_le numB 9 (told.take k) (k := 8) (by simp; omega) (fun n _ => numB_length _)
            rw [List.length_append]
            omega)
          obtain ⟨rs, hrs⟩ : ∃ r, bs3 ++ ((told.take k).map numB).flatten ++ numB x = r := ⟨_, rfl⟩
          have hRS := Lib.hid hrs
          clear hrs
          go_wp2_with (at_builtin; refine list_of_wp rfl ?_; refine wp_append_B (.tmp 62) (.tmp 64) rfl W.heap.size u3 (.slice A2 (numB x).length d2) _ (numB x) rs hRS.out rfl (hOa.out.below hB2.out) rfl (RB.of_own hO2.out) hne.out (bnext hBb.out hB2.out).size ?_)
          intro v3 w3 hO3_ hg3_ _
          have hO3 := Lib.hid hO3_
          have hB3 := Lib.hid ((bnext hBb.out hB2.out).grown hg3_ (bnext hBb.out hB2.out).size (own_ge hOa.out))
          clear hO3_ hg3_
          go_wp2_with fail
          go_roundw
          case rel => exact ⟨k + 1, by omega, by go_num, by rw [flat_snoc_opt _ _ _ _ hX.out, ← List.append_assoc, hRS.out]; exact hO3.out, hB3.out⟩
          case measure => simp [intOf]; omega
        · have hO12 := hOa.out
          rw [show told.take k = told from List.take_of_length_le (by omega)] at hO12
          obtain ⟨bs4, hbs4⟩ : ∃ l, bs3 ++ (told.map numB).flatten = l := ⟨_, rfl⟩
          rw [hbs4] at hO12
          obtain ⟨A12, d12, rfl⟩ := own_slice hO12
          have hO12' := Lib.hid hO12
          have hBS4 := Lib.hid hbs4
          have x10 : wr.cell? ⟨w.heap.size, 10, none⟩ = some (.slice B ops.length d) := by rw [block_cell hbr2.out]; rfl
          have hOps := Lib.hid (hR.out.ops.below (bnext hBW.out hBb.out))
          clear hbs4 hO12 hOa hTb
          go_wp2_with fail
          refine (opsEnc_any B d ops _ hOps.out hl0 (fun o ho => ⟨hR.out.opsok o ho, by have := (plainO_kind ((checkO_len hF.out.ops).2 o ho).1).1; omega⟩) hR.out.keys).mono ?_
          rintro en w11 ⟨A11, d11, rfl, hO11_, hB11_⟩
          have hO11 := Lib.hid hO11_
          have hB11 := Lib.hid hB11_
          clear hO11_ hB11_
          go_wp2_with (refine list_of_wp rfl ?_; refine wp_conv_BS (.tmp 70) _ (opsB ops) rfl rfl (RB.of_own hO11.out) ?_)
          have hsz : (⟨(opsB ops).toArray⟩ : ByteArray).size = (opsB ops).length := rfl
          have hbody : bodyM ⟨kind, from_, to_, g, node, try_, low, code, ticket, told, ops⟩ = bs4 ++ strB (opsB ops) := by
            unfold bodyM
            rw [hNums.out]
            show (nums.map natI).flatten ++ (natI ticket ++ natB told.length) ++ (told.map numB).flatten ++ strB (opsB ops) = _
            rw [hBS1.out, hBS2.out, hBS3.out, hBS4.out]
          have hBLO := hBL.out
          rw [hbody] at hBLO
          have hEQ2 := hEQ.out
          rw [hbody] at hEQ2
          have hstl : (strB (opsB ops)).length = (natB (opsB ops).length).length + (opsB ops).length := by simp [strB]
          have hops9 : (opsB ops).length ≤ 1000 := by rw [List.length_append, hstl] at hBLO; omega
          obtain ⟨S, hS⟩ : ∃ s, strB (opsB ops) = s := ⟨_, rfl⟩
          rw [hS] at hBLO hEQ2 hbody
          obtain ⟨sa, hsa⟩ : ∃ s : ByteArray, (⟨(opsB ops).toArray⟩ : ByteArray) = s := ⟨_, rfl⟩
          have hsl : sa.size ≤ 140737488355000 := by rw [← hsa, hsz]; omega
          have hsd : strB sa.data.toList = S := by rw [← hsa]; exact hS
          have hSD := Lib.hid hsd
          have hE3 := Lib.hid hEQ2
          have hB3L := Lib.hid hBLO
          rw [hsa]
          clear hsa hsz hS hsd hEQ2 hBLO hbody hstl
          go_wp2_with fail
          refine (str_any sa hsl _).mono ?_
          rintro en w12 ⟨A13, d13, rfl, hO13_, hB13_⟩
          rw [hSD.out] at hO13_ ⊢
          have hO13 := Lib.hid hO13_
          have hB13 := Lib.hid hB13_
          have hO12b := Lib.hid ((RB.of_own hO12'.out).below (bnext hB11.out hB13_))
          clear hO13_ hB13_
          go_wp2_with fail
          refine (seq_any _ [bs4, S] _ _ (RP.made2 hO12b.out (RB.of_own hO13.out)) rfl (by have h := hB3L.out; simp only [List.flatten_cons, List.flatten_nil, List.append_nil]; omega)).mono ?_
          rintro en w14 ⟨A14, d14, rfl, hO14_, hB14_⟩
          have hfl2 : [bs4, S].flatten = bs4 ++ S := by simp
          rw [hfl2] at hO14_ ⊢
          have hO14 := Lib.hid hO14_
          have hB14 := Lib.hid (bboxed hB14_)
          clear hO14_ hB14_ hfl2
          obtain ⟨body, hbd⟩ : ∃ l, bs4 ++ S = l := ⟨_, rfl⟩
          have hBD := Lib.hid hbd
          rw [hbd] at hO14 hE3 hB3L ⊢
          clear hbd
          go_wp2_with fail
          refine (wrap_one _ body _ (RP.made1 (RB.of_own hO14.out)) (by have h := hB3L.out; omega)).mono ?_
          rintro en w15 ⟨A15, d15, rfl, hO15_, hB15_⟩
          have hO15 := Lib.hid hO15_
          have hB15 := Lib.hid (bboxed hB15_)
          have hend := Lib.hid (bnext (bnext (bnext (bnext (bnext hBW.out hBb.out) hB11.out) hB13.out) hB14.out) hB15.out)
          clear hO15_ hB15_
          go_wp2_with fail
          go_ret
          rw [hE3.out]
          exact RetB.mk (v := .slice A15 (wrapB body).length d15) rfl (hO15.out.lower (by have h := (bnext (bnext (bnext (bnext hBW.out hBb.out) hB11.out) hB13.out) hB14.out).size; simp only [World.size_alloc]; omega)) hend.out
end Go.Proofs.YteeiacfddjhhkaaGreatDoor
