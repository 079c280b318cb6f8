/- The document's Decode of operations: of any bytes it comes back; of good operations' bytes (G) with them. -/
import Derived.Test.YteeiacfddjhhkaaGreatDoorRIn2
import Derived.Test.YteeiacfddjhhkaaGreatDoorROps2
import Derived.Test.YteeiacfddjhhkaaGreatDoorRd3
import Derived.Test.YteeiacfddjhhkaaGreatDoorApp
namespace Go.Proofs.YteeiacfddjhhkaaGreatDoor
open Go.RowKit
set_option maxRecDepth 100000

def RDecS (G : Prop) (ops : List POp) (w : World) (e : Ending) (w' : World) : Prop := ∃ (A : Option Addr) (c : Nat) (l : List POp) (x : Int), e = .returned (.tuple #[.slice A l.length c, .int .i64 x]) ∧ w'.ownsRow w.heap.size 108 4 (.slice A l.length c) l.length (opsC l) ∧ l.length ≤ 65 ∧ (∀ o ∈ l, o.ok ∧ o.key.size ≤ 16) ∧ (G → x = 0 ∧ l = ops) ∧ Below w.heap.size w w'
theorem RDecS.bad {G : Prop} {ops : List POp} {w w' : World} {e : Ending} (x : Int) (he : e = .returned (.tuple #[.slice none 0 0, .int .i64 x])) (hG : ¬ G) (hB : Below w.heap.size w w') : RDecS G ops w e w' :=
  ⟨none, 0, [], x, he, own_nil _ _ _ _, by simp, by simp, fun g => absurd g hG, hB⟩
theorem op_step {G : Prop} {w W : World} {p q : Nat} {rest : List UInt8} {arr : Array Value} {T : TypeId} (i : Nat) (u : Value) (hI : RdAt G W p rest) (hQ : W.heap[q]? = some (.cells arr T (0, 0))) (hB : Below w.heap.size w W) (hpq : p < q) (hwq : w.heap.size ≤ q) :
    RdAt G (W.setCell ⟨q, i, none⟩ u) p rest ∧ (W.setCell ⟨q, i, none⟩ u).heap[q]? = some (.cells (arr.setIfInBounds i u) T (0, 0)) ∧ Below w.heap.size w (W.setCell ⟨q, i, none⟩ u) := by
  have h1 : ∀ k, k ≠ q → (W.setCell ⟨q, i, none⟩ u).heap[k]? = W.heap[k]? := fun k hk => Below.heap_setCell _ _ _ _ (by simpa using hk)
  refine ⟨hI.kept (Kept.setCell (S := (· = q)) (p := ⟨q, i, none⟩) (Kept.refl _ W) (.inl rfl) u) (by rintro _ rfl; exact hpq), block_setCell hQ i u, hB.os, hB.tape, hB.output, by rw [World.size_setCell]; exact hB.size, fun k hk => ?_⟩
  rw [h1 k (by omega)]
  exact hB.block k hk
theorem Kept.of_grown' {w w' : World} {row : Option Nat} (h : w.grownBy w' row) : Kept (fun j => row = some j) w w' :=
  ⟨h.os, h.tape, h.output, h.size, fun k hk hn => h.block k hk (fun e => hn e.symm)⟩
set_option maxHeartbeats 2000000 in
theorem ropsDec_any (G : Prop) (ops : List POp) (v : Value) (bs : List UInt8) (w : World) (hR : RB w v bs) (hlen : bs.length ≤ 100000) (hG : G → bs = opsB ops ∧ ops.length ≤ 64 ∧ ∀ o ∈ ops, o.ok ∧ goodO o = true ∧ o.key.size ≤ 16) :
    Calls Tryz.prog 117 #[v] w (RDecS G ops w) := by
  obtain ⟨A, c, hv, _⟩ := id hR
  have hRR := Lib.hid hR
  have hGG := Lib.hid hG
  subst hv
  clear hR hG
  go_enter Tryz.func117, Tryz.ntmps117
  go_wp2_with fail
  refine (rof_any G _ bs (natB ops.length ++ (ops.map opB).flatten) _ hRR.out hlen (fun g => (hGG.out g).1)).mono ?_
  rintro e w1 ⟨p, rfl, hI1_, hp, hB1_⟩
  have hI1 := Lib.hid hI1_
  have hB1 := Lib.hid hB1_
  clear hI1_ hB1_
  go_wp2_with fail
  refine (rNat_any G ops.length _ p _ hI1.out (fun g => by have := (hGG.out g).2.1; omega)).mono ?_
  rintro e w2 ⟨n, rfl, hn, hng, hI2_, hK2_⟩
  have hI2 := Lib.hid hI2_
  have hB2 := Lib.hid (kept_below hB1.out hK2_ (by rintro _ rfl; exact hp))
  have hNG := Lib.hid hng
  have hpb := Lib.hid hp
  clear hI2_ hK2_ hI1 hng
  go_wp2_with fail
  go_loopw [6, 7, 8, 9] (fun s i _ _ wr => ∃ (k : Nat) (l : List POp), k ≤ 65 ∧ i = .int .u64 k ∧ l.length = k ∧ wr.ownsRow (p + 1) 108 4 s k (opsC l) ∧ (∀ o ∈ l, o.ok ∧ o.key.size ≤ 16) ∧ RdAt G wr p ((ops.drop k).map opB).flatten ∧ (G → l = ops.take k) ∧ Below w.heap.size w wr) (fun _ i _ _ _ => 65 - (intOf i).toNat)
  case atStart => exact ⟨0, [], by omega, rfl, rfl, own_nil _ _ _ _, by simp, by simpa using hI2.out, fun _ => rfl, hB2.out⟩
  case round =>
    obtain ⟨k, l, hk, rfl, hlk, hO_, hops_, hI_, hlg_, hB_⟩ := hrel
    obtain ⟨A9, c9, bs9, k9, er, bad, hC9, hg9⟩ := id hI_
    have x2 : wr.cell? ⟨p, 2, none⟩ = some (.int .i64 er) := by rw [block_cell hC9.1]; rfl
    have hEr : Hid (G → er = 0) := Lib.hid (fun g => (hg9 g).1)
    have hO := Lib.hid hO_
    have hB := Lib.hid hB_
    have hI := Lib.hid hI_
    have hOPS := Lib.hid hops_
    have hLK := Lib.hid hlk
    have hLT := Lib.hid hlg_
    clear hO_ hB_ hI_ hops_ hlk hlg_ hC9 hg9 hI2
    by_cases hlt : k < n
    case neg =>
      have dk : decide (k < n) = false := by simpa using hlt
      have hT : Hid (RdAt G wr p []) := Lib.hid (by
        obtain ⟨A9, c9, bs9, k9, er, bad, hC9, hg9⟩ := hI.out
        refine ⟨A9, c9, bs9, k9, er, bad, hC9, fun g => ⟨(hg9 g).1, ?_⟩⟩
        have h1 := hNG.out g
        rw [(hg9 g).2, List.drop_of_length_le (by omega)]
        rfl)
      have hLG : Hid (G → l = ops) := Lib.hid (fun g => by
        have h1 := hNG.out g
        rw [hLT.out g, List.take_of_length_le (by omega)])
      clear hlt x2
      go_wp2_with fail
      refine (rEnd_any G p _ hT.out).mono ?_
      rintro e wE ⟨xE, rfl, hxE_, hKE_⟩
      have hBE := Lib.hid (kept_below hB.out hKE_ (by rintro _ rfl; exact hpb.out))
      have hOE := Lib.hid (own_kept hO.out hKE_ (by rintro j hj rfl; omega))
      have hXE := Lib.hid hxE_
      clear hKE_ hxE_
      by_cases hx0 : xE = 0
      case neg =>
        have dx : (xE != 0) = true := by simpa using hx0
        have hE : Hid (¬ G) := Lib.hid (fun g => hx0 (hXE.out g))
        clear hx0
        go_wp2_with fail
        refine bodyPost_ret (v := .tuple #[.slice none 0 0, .int .i64 6]) ?_ rfl (RDecS.bad 6 rfl hE.out hBE.out)
        simp [results, Tryz.results117, go_sem]
      subst hx0
      by_cases h64 : (64 : Int) < n
      case pos =>
        have d64 : decide ((64 : Int) < n) = true := by simpa using h64
        have hE : Hid (¬ G) := Lib.hid (fun g => by have h1 := hNG.out g; have h2 := (hGG.out g).2.1; omega)
        clear h64
        go_wp2_with fail
        refine bodyPost_ret (v := .tuple #[.slice none 0 0, .int .i64 6]) ?_ rfl (RDecS.bad 6 rfl hE.out hBE.out)
        simp [results, Tryz.results117, go_sem]
      have d64 : decide ((64 : Int) < n) = false := by simpa using h64
      have hlk2 := hLK.out
      have hl65 : l.length ≤ 65 := by omega
      obtain ⟨A2, c2, hA2⟩ := own_slice hOE.out
      rw [← hlk2] at hA2 hOE
      subst hA2
      have hrow := Lib.hid (RowAt.of_own hOE.out rfl)
      clear h64 hlk2
      go_wp2_with fail
      go_loopw [11, 61] (fun _ i wr => ∃ j : Nat, j ≤ l.length ∧ i = .int .i64 j ∧ Below wE.heap.size wE wr) (fun _ i _ => l.length - (intOf i).toNat)
      case atStart => exact ⟨0, by omega, rfl, Below.refl _ _⟩
      case round =>
        obtain ⟨j, hj, rfl, hBj_⟩ := hrel
        have hBj := Lib.hid hBj_
        clear hBj_
        by_cases hjl : j < l.length
        · have hjl9 := Lib.hid hjl
          obtain ⟨ad, rfl, c0, c1, c2', c3⟩ := ops_at (hrow.out.below hBj.out) hjl
          have hxk : l[j].key.size ≤ 16 := (hOPS.out _ (List.getElem_mem hjl)).2
          have hgd : Hid (G → goodO l[j] = true) := Lib.hid (fun g => ((hGG.out g).2.2 l[j] (by rw [← hLG.out g]; exact List.getElem_mem hjl)).2.1)
          generalize l[j] = x at *
          have hp9 := Lib.hid (fun w => rmay_any x w (by omega))
          obtain ⟨kind, key, n9, lo⟩ := x
          simp only at c0 c1 c2' c3
          have hB1 := Lib.hid (below_alloc hBj.out (.cells #[.int .i64 kind, .string key, .int .i64 n9, .int .i64 lo] 108))
          go_wp2_with fail
          refine (hp9.out _).mono ?_
          rintro e w1 ⟨b, rfl, hb, hB2_⟩
          have hB2 := Lib.hid (bnext hB1.out hB2_)
          have hbg : Hid (G → b = true) := Lib.hid (fun g => by
            have h1 := hgd.out g
            unfold goodO at h1
            simp only [Bool.and_eq_true] at h1
            rw [hb h1.2, h1.1])
          clear hB2_ hb
          cases b
          · have hE : Hid (¬ G) := Lib.hid (fun g => by have := hbg.out g; simp at this)
            go_wp2_with fail
            refine bodyPost_ret (v := .tuple #[.slice none 0 0, .int .i64 6]) ?_ rfl (RDecS.bad 6 rfl hE.out (bnext hBE.out hB2.out))
            simp [results, Tryz.results117, go_sem]
          · go_wp2_with fail
            go_roundw
            case rel => exact ⟨j + 1, hjl9.out, by go_num, hB2.out⟩
            case measure => have := hjl9.out; simp [intOf]; omega
        · have hjj : j = l.length := by omega
          subst hjj
          go_wp2_with fail
          refine bodyPost_ret (v := .tuple #[.slice A2 l.length c2, .int .i64 0]) ?_ rfl ⟨A2, c2, l, 0, rfl, own_lower (own_below hOE.out hBj.out) (by have := hpb.out; omega), by have := hLK.out; omega, hOPS.out, fun g => ⟨rfl, hLG.out g⟩, bnext hBE.out hBj.out⟩
          simp [results, Tryz.results117, go_sem]
    have dk : decide (k < n) = true := by simpa using hlt
    by_cases h65 : k < 65
    case neg =>
      have dk2 : decide (k < 65) = false := by simpa using h65
      have dk3 : decide ((k : Int) < 65) = false := decide_eq_false (by omega)
      have hE0 : Hid (¬ G) := Lib.hid (fun g => by have h1 := hNG.out g; have h2 := (hGG.out g).2.1; omega)
      have hT : Hid (RdAt G wr p []) := Lib.hid (by
        obtain ⟨A9, c9, bs9, k9, er, bad, hC9, hg9⟩ := hI.out
        exact ⟨A9, c9, bs9, k9, er, bad, hC9, fun g => absurd g hE0.out⟩)
      have hLG : Hid (G → l = ops) := Lib.hid (fun g => absurd g hE0.out)
      clear hlt h65 x2
      go_wp2_with fail
      refine (rEnd_any G p _ hT.out).mono ?_
      rintro e wE ⟨xE, rfl, hxE_, hKE_⟩
      have hBE := Lib.hid (kept_below hB.out hKE_ (by rintro _ rfl; exact hpb.out))
      have hOE := Lib.hid (own_kept hO.out hKE_ (by rintro j hj rfl; omega))
      have hXE := Lib.hid hxE_
      clear hKE_ hxE_
      by_cases hx0 : xE = 0
      case neg =>
        have dx : (xE != 0) = true := by simpa using hx0
        have hE : Hid (¬ G) := Lib.hid (fun g => hx0 (hXE.out g))
        clear hx0
        go_wp2_with fail
        refine bodyPost_ret (v := .tuple #[.slice none 0 0, .int .i64 6]) ?_ rfl (RDecS.bad 6 rfl hE.out hBE.out)
        simp [results, Tryz.results117, go_sem]
      subst hx0
      by_cases h64 : (64 : Int) < n
      case pos =>
        have d64 : decide ((64 : Int) < n) = true := by simpa using h64
        have hE : Hid (¬ G) := Lib.hid (fun g => by have h1 := hNG.out g; have h2 := (hGG.out g).2.1; omega)
        clear h64
        go_wp2_with fail
        refine bodyPost_ret (v := .tuple #[.slice none 0 0, .int .i64 6]) ?_ rfl (RDecS.bad 6 rfl hE.out hBE.out)
        simp [results, Tryz.results117, go_sem]
      have d64 : decide ((64 : Int) < n) = false := by simpa using h64
      have hlk2 := hLK.out
      have hl65 : l.length ≤ 65 := by omega
      obtain ⟨A2, c2, hA2⟩ := own_slice hOE.out
      rw [← hlk2] at hA2 hOE
      subst hA2
      have hrow := Lib.hid (RowAt.of_own hOE.out rfl)
      clear h64 hlk2
      go_wp2_with fail
      go_loopw [11, 61] (fun _ i wr => ∃ j : Nat, j ≤ l.length ∧ i = .int .i64 j ∧ Below wE.heap.size wE wr) (fun _ i _ => l.length - (intOf i).toNat)
      case atStart => exact ⟨0, by omega, rfl, Below.refl _ _⟩
      case round =>
        obtain ⟨j, hj, rfl, hBj_⟩ := hrel
        have hBj := Lib.hid hBj_
        clear hBj_
        by_cases hjl : j < l.length
        · have hjl9 := Lib.hid hjl
          obtain ⟨ad, rfl, c0, c1, c2', c3⟩ := ops_at (hrow.out.below hBj.out) hjl
          have hxk : l[j].key.size ≤ 16 := (hOPS.out _ (List.getElem_mem hjl)).2
          have hgd : Hid (G → goodO l[j] = true) := Lib.hid (fun g => ((hGG.out g).2.2 l[j] (by rw [← hLG.out g]; exact List.getElem_mem hjl)).2.1)
          generalize l[j] = x at *
          have hp9 := Lib.hid (fun w => rmay_any x w (by omega))
          obtain ⟨kind, key, n9, lo⟩ := x
          simp only at c0 c1 c2' c3
          have hB1 := Lib.hid (below_alloc hBj.out (.cells #[.int .i64 kind, .string key, .int .i64 n9, .int .i64 lo] 108))
          go_wp2_with fail
          refine (hp9.out _).mono ?_
          rintro e w1 ⟨b, rfl, hb, hB2_⟩
          have hB2 := Lib.hid (bnext hB1.out hB2_)
          have hbg : Hid (G → b = true) := Lib.hid (fun g => by
            have h1 := hgd.out g
            unfold goodO at h1
            simp only [Bool.and_eq_true] at h1
            rw [hb h1.2, h1.1])
          clear hB2_ hb
          cases b
          · have hE : Hid (¬ G) := Lib.hid (fun g => by have := hbg.out g; simp at this)
            go_wp2_with fail
            refine bodyPost_ret (v := .tuple #[.slice none 0 0, .int .i64 6]) ?_ rfl (RDecS.bad 6 rfl hE.out (bnext hBE.out hB2.out))
            simp [results, Tryz.results117, go_sem]
          · go_wp2_with fail
            go_roundw
            case rel => exact ⟨j + 1, hjl9.out, by go_num, hB2.out⟩
            case measure => have := hjl9.out; simp [intOf]; omega
        · have hjj : j = l.length := by omega
          subst hjj
          go_wp2_with fail
          refine bodyPost_ret (v := .tuple #[.slice A2 l.length c2, .int .i64 0]) ?_ rfl ⟨A2, c2, l, 0, rfl, own_lower (own_below hOE.out hBj.out) (by have := hpb.out; omega), by have := hLK.out; omega, hOPS.out, fun g => ⟨rfl, hLG.out g⟩, bnext hBE.out hBj.out⟩
          simp [results, Tryz.results117, go_sem]
    have dk2 : decide (k < 65) = true := by simpa using h65
    have dk3 : decide ((k : Int) < 65) = true := decide_eq_true (by omega)
    by_cases her : er = 0
    case neg =>
      have de : (er == 0) = false := by simpa using her
      have hE0 : Hid (¬ G) := Lib.hid (fun g => her (hEr.out g))
      have hT : Hid (RdAt G wr p []) := Lib.hid (by
        obtain ⟨A9, c9, bs9, k9, er, bad, hC9, hg9⟩ := hI.out
        exact ⟨A9, c9, bs9, k9, er, bad, hC9, fun g => absurd g hE0.out⟩)
      have hLG : Hid (G → l = ops) := Lib.hid (fun g => absurd g hE0.out)
      clear hlt h65 her
      go_wp2_with fail
      refine (rEnd_any G p _ hT.out).mono ?_
      rintro e wE ⟨xE, rfl, hxE_, hKE_⟩
      have hBE := Lib.hid (kept_below hB.out hKE_ (by rintro _ rfl; exact hpb.out))
      have hOE := Lib.hid (own_kept hO.out hKE_ (by rintro j hj rfl; omega))
      have hXE := Lib.hid hxE_
      clear hKE_ hxE_
      by_cases hx0 : xE = 0
      case neg =>
        have dx : (xE != 0) = true := by simpa using hx0
        have hE : Hid (¬ G) := Lib.hid (fun g => hx0 (hXE.out g))
        clear hx0
        go_wp2_with fail
        refine bodyPost_ret (v := .tuple #[.slice none 0 0, .int .i64 6]) ?_ rfl (RDecS.bad 6 rfl hE.out hBE.out)
        simp [results, Tryz.results117, go_sem]
      subst hx0
      by_cases h64 : (64 : Int) < n
      case pos =>
        have d64 : decide ((64 : Int) < n) = true := by simpa using h64
        have hE : Hid (¬ G) := Lib.hid (fun g => by have h1 := hNG.out g; have h2 := (hGG.out g).2.1; omega)
        clear h64
        go_wp2_with fail
        refine bodyPost_ret (v := .tuple #[.slice none 0 0, .int .i64 6]) ?_ rfl (RDecS.bad 6 rfl hE.out hBE.out)
        simp [results, Tryz.results117, go_sem]
      have d64 : decide ((64 : Int) < n) = false := by simpa using h64
      have hlk2 := hLK.out
      have hl65 : l.length ≤ 65 := by omega
      obtain ⟨A2, c2, hA2⟩ := own_slice hOE.out
      rw [← hlk2] at hA2 hOE
      subst hA2
      have hrow := Lib.hid (RowAt.of_own hOE.out rfl)
      clear h64 hlk2
      go_wp2_with fail
      go_loopw [11, 61] (fun _ i wr => ∃ j : Nat, j ≤ l.length ∧ i = .int .i64 j ∧ Below wE.heap.size wE wr) (fun _ i _ => l.length - (intOf i).toNat)
      case atStart => exact ⟨0, by omega, rfl, Below.refl _ _⟩
      case round =>
        obtain ⟨j, hj, rfl, hBj_⟩ := hrel
        have hBj := Lib.hid hBj_
        clear hBj_
        by_cases hjl : j < l.length
        · have hjl9 := Lib.hid hjl
          obtain ⟨ad, rfl, c0, c1, c2', c3⟩ := ops_at (hrow.out.below hBj.out) hjl
          have hxk : l[j].key.size ≤ 16 := (hOPS.out _ (List.getElem_mem hjl)).2
          have hgd : Hid (G → goodO l[j] = true) := Lib.hid (fun g => ((hGG.out g).2.2 l[j] (by rw [← hLG.out g]; exact List.getElem_mem hjl)).2.1)
          generalize l[j] = x at *
          have hp9 := Lib.hid (fun w => rmay_any x w (by omega))
          obtain ⟨kind, key, n9, lo⟩ := x
          simp only at c0 c1 c2' c3
          have hB1 := Lib.hid (below_alloc hBj.out (.cells #[.int .i64 kind, .string key, .int .i64 n9, .int .i64 lo] 108))
          go_wp2_with fail
          refine (hp9.out _).mono ?_
          rintro e w1 ⟨b, rfl, hb, hB2_⟩
          have hB2 := Lib.hid (bnext hB1.out hB2_)
          have hbg : Hid (G → b = true) := Lib.hid (fun g => by
            have h1 := hgd.out g
            unfold goodO at h1
            simp only [Bool.and_eq_true] at h1
            rw [hb h1.2, h1.1])
          clear hB2_ hb
          cases b
          · have hE : Hid (¬ G) := Lib.hid (fun g => by have := hbg.out g; simp at this)
            go_wp2_with fail
            refine bodyPost_ret (v := .tuple #[.slice none 0 0, .int .i64 6]) ?_ rfl (RDecS.bad 6 rfl hE.out (bnext hBE.out hB2.out))
            simp [results, Tryz.results117, go_sem]
          · go_wp2_with fail
            go_roundw
            case rel => exact ⟨j + 1, hjl9.out, by go_num, hB2.out⟩
            case measure => have := hjl9.out; simp [intOf]; omega
        · have hjj : j = l.length := by omega
          subst hjj
          go_wp2_with fail
          refine bodyPost_ret (v := .tuple #[.slice A2 l.length c2, .int .i64 0]) ?_ rfl ⟨A2, c2, l, 0, rfl, own_lower (own_below hOE.out hBj.out) (by have := hpb.out; omega), by have := hLK.out; omega, hOPS.out, fun g => ⟨rfl, hLG.out g⟩, bnext hBE.out hBj.out⟩
          simp [results, Tryz.results117, go_sem]
    subst her
    obtain ⟨o, ho⟩ : ∃ o : POp, G → ops[k]? = some o := by
      by_cases g : G
      · have h1 := hNG.out g
        exact ⟨ops[k]'(by omega), fun _ => List.getElem?_eq_getElem _⟩
      · exact ⟨⟨0, ⟨#[]⟩, 0, 0⟩, fun g' => absurd g' g⟩
    have hX := Lib.hid ho
    have hIx : Hid (RdAt G wr p (natB o.kind.toNat ++ (strB o.key.data.toList ++ (numB o.n ++ (numB o.lo ++ ((ops.drop (k + 1)).map opB).flatten))))) := Lib.hid (by
      obtain ⟨A9, c9, bs9, k9, er, bad, hC9, hg9⟩ := hI.out
      refine ⟨A9, c9, bs9, k9, er, bad, hC9, fun g => ⟨(hg9 g).1, ?_⟩⟩
      have h1 := ho g
      obtain ⟨h2, h3⟩ := List.getElem?_eq_some_iff.1 h1
      rw [(hg9 g).2, List.drop_eq_getElem_cons h2, h3, List.map_cons, List.flatten_cons, opB]
      simp)
    have hoG : Hid (G → o.ok ∧ goodO o = true ∧ o.key.size ≤ 16 ∧ 1 ≤ o.kind ∧ o.kind ≤ 6) := Lib.hid (fun g => by
      have h1 := (hGG.out g).2.2 o (List.mem_of_getElem? (ho g))
      have h2 := h1.2.1
      unfold goodO at h2
      simp only [Bool.and_eq_true] at h2
      exact ⟨h1.1, h1.2.1, h1.2.2, plainO_kind h2.1⟩)
    clear ho
    go_wp2_with fail
    clear x2
    refine (rNat_any G o.kind.toNat _ p _ hIx.out (fun g => by have := (hoG.out g).2.2.2.2; omega)).mono ?_
    rintro e w4 ⟨kd, rfl, hkd, hkg, hI4_, hK4_⟩
    have hI4 := Lib.hid hI4_
    have hB4 := Lib.hid (kept_below hB.out hK4_ (by rintro _ rfl; exact hpb.out))
    have hO4 := Lib.hid (own_kept hO.out hK4_ (by rintro j hj rfl; omega))
    have hP4 := Lib.hid hI4_.lt
    have hKG : Hid (G → (kd : Int) = o.kind) := Lib.hid (fun g => by have h1 := hkg g; have h2 := (hoG.out g).2.2.2.1; omega)
    clear hI4_ hK4_ hIx hI hO hB hkg
    by_cases h1000 : 1000 < kd
    case pos =>
      have d1 : decide ((1000 : Int) < kd) = true := by simp; omega
      have hE : Hid (¬ G) := Lib.hid (fun g => by have h1 := hKG.out g; have h2 := (hoG.out g).2.2.2.2; omega)
      clear h1000
      go_wp2_with fail
      refine bodyPost_ret (v := .tuple #[.slice none 0 0, .int .i64 6]) ?_ rfl (RDecS.bad 6 rfl hE.out hB4.out)
      simp [results, Tryz.results117, go_sem]
    have d1 : decide ((1000 : Int) < kd) = false := by simp; omega
    obtain ⟨q, hq⟩ : ∃ q, w4.heap.size = q := ⟨_, rfl⟩
    have hQ5 := Lib.hid (heap_alloc_new w4 (.cells #[.int .i64 kd, .string ⟨#[]⟩, .int .i64 0, .int .i64 0] 108))
    have hB5 := Lib.hid (below_alloc hB4.out (.cells #[.int .i64 kd, .string ⟨#[]⟩, .int .i64 0, .int .i64 0] 108))
    have hA5 := Lib.hid (below_alloc (Below.refl _ w4) (.cells #[.int .i64 kd, .string ⟨#[]⟩, .int .i64 0, .int .i64 0] 108))
    have hpq : p < q := by rw [← hq]; exact hP4.out
    have hwq : w.heap.size ≤ q := by rw [← hq]; exact hB4.out.size
    have hOq : Hid (∀ j, u6.ownBlock = some j → p + 1 ≤ j ∧ j < q) := Lib.hid (fun j hj => by have h1 := hO4.out.lt j hj; omega)
    go_wp2_with fail
    have hI5 := Lib.hid (hI4.out.later hA5.out)
    have hO5 := Lib.hid (own_below hO4.out hA5.out)
    generalize w4.alloc (.cells #[.int .i64 kd, .string ⟨#[]⟩, .int .i64 0, .int .i64 0] 108) = W5 at *
    rw [hq] at hQ5
    refine (rStr_any G o.key.data.toList _ 16 p _ hI5.out (fun g => by have := (hoG.out g).2.2.1; simp; omega) (by omega)).mono ?_
    rintro e w6 ⟨ks, rfl, hks, hkeyg, hI6_, hK6_⟩
    obtain ⟨key, hkey⟩ : ∃ key : ByteArray, (⟨ks.toArray⟩ : ByteArray) = key := ⟨_, rfl⟩
    have hkl : key.size ≤ 16 := by rw [← hkey]; show ks.toArray.size ≤ 16; simpa using hks
    have hKK : Hid (G → key = o.key) := Lib.hid (fun g => by rw [← hkey, hkeyg g])
    have hI6 := Lib.hid hI6_
    have hQ6 := Lib.hid ((hK6_.block q (lt_of_block hQ5.out) (by omega)).trans hQ5.out)
    have hB6 := Lib.hid (kept_below hB5.out hK6_ (by rintro _ rfl; exact hpb.out))
    have hO6 := Lib.hid (own_kept hO5.out hK6_ (by rintro j hj rfl; omega))
    rw [hkey]
    clear hI6_ hK6_ hI5 hQ5 hB5 hO5 hA5 hkey hks hkeyg
    have f1 : w6.frozen? ⟨q, 1, none⟩ = false := block_free hQ6.out 1
    have x1 : w6.cell? ⟨q, 1, none⟩ = some (.string ⟨#[]⟩) := by rw [block_cell hQ6.out]; rfl
    go_wp2_with fail
    have s1 := Lib.hid (op_step (w := w) 1 (.string key) hI6.out hQ6.out hB6.out hpq hwq)
    have hO7 := Lib.hid (own_move (w1 := w6.setCell ⟨q, 1, none⟩ (.string key)) hO6.out fun j hj => Below.heap_setCell _ _ _ _ (by have := hOq.out j hj; show j ≠ q; omega))
    generalize w6.setCell ⟨q, 1, none⟩ (.string key) = W7 at *
    have hI7 := Lib.hid s1.out.1
    have hB7 := Lib.hid s1.out.2.2
    have hQ7 : Hid (W7.heap[q]? = some (.cells #[.int .i64 kd, .string key, .int .i64 0, .int .i64 0] 108 (0, 0))) := Lib.hid s1.out.2.1
    clear s1 f1 x1 hI6 hQ6 hB6 hO6

    refine (rNum_any G o.n _ p _ hI7.out (fun g => (hoG.out g).1.2.1)).mono ?_
    rintro e w8 ⟨n2, rfl, hn2_, hn2g_, hI8_, hK8_⟩
    have hN2 := Lib.hid (And.intro hn2_ hn2g_)
    have hI8 := Lib.hid hI8_
    have hQ8 := Lib.hid ((hK8_.block q (lt_of_block hQ7.out) (by omega)).trans hQ7.out)
    have hB8 := Lib.hid (kept_below hB7.out hK8_ (by rintro _ rfl; exact hpb.out))
    have hO8 := Lib.hid (own_kept hO7.out hK8_ (by rintro j hj rfl; omega))
    clear hI8_ hK8_ hn2_ hn2g_ hI7 hQ7 hB7 hO7
    have f2 : w8.frozen? ⟨q, 2, none⟩ = false := block_free hQ8.out 2
    have x2 : w8.cell? ⟨q, 2, none⟩ = some (.int .i64 0) := by rw [block_cell hQ8.out]; rfl
    go_wp2_with fail
    have s2 := Lib.hid (op_step (w := w) 2 (.int .i64 n2) hI8.out hQ8.out hB8.out hpq hwq)
    have hO9 := Lib.hid (own_move (w1 := w8.setCell ⟨q, 2, none⟩ (.int .i64 n2)) hO8.out fun j hj => Below.heap_setCell _ _ _ _ (by have := hOq.out j hj; show j ≠ q; omega))
    generalize w8.setCell ⟨q, 2, none⟩ (.int .i64 n2) = W9 at *
    have hI9 := Lib.hid s2.out.1
    have hB9 := Lib.hid s2.out.2.2
    have hQ9 : Hid (W9.heap[q]? = some (.cells #[.int .i64 kd, .string key, .int .i64 n2, .int .i64 0] 108 (0, 0))) := Lib.hid s2.out.2.1
    clear s2 f2 x2 hI8 hQ8 hB8 hO8

    refine (rNum_any G o.lo _ p _ hI9.out (fun g => (hoG.out g).1.2.2)).mono ?_
    rintro e w10 ⟨lo, rfl, hlo_, hlog_, hI10_, hK10_⟩
    have hLO := Lib.hid (And.intro hlo_ hlog_)
    have hI10 := Lib.hid hI10_
    have hQ10 := Lib.hid ((hK10_.block q (lt_of_block hQ9.out) (by omega)).trans hQ9.out)
    have hB10 := Lib.hid (kept_below hB9.out hK10_ (by rintro _ rfl; exact hpb.out))
    have hO10 := Lib.hid (own_kept hO9.out hK10_ (by rintro j hj rfl; omega))
    clear hI10_ hK10_ hlo_ hlog_ hI9 hQ9 hB9 hO9
    have f3 : w10.frozen? ⟨q, 3, none⟩ = false := block_free hQ10.out 3
    have x3 : w10.cell? ⟨q, 3, none⟩ = some (.int .i64 0) := by rw [block_cell hQ10.out]; rfl
    have s3 := Lib.hid (op_step (w := w) 3 (.int .i64 lo) hI10.out hQ10.out hB10.out hpq hwq)
    have hO11 := Lib.hid (own_move (w1 := w10.setCell ⟨q, 3, none⟩ (.int .i64 lo)) hO10.out fun j hj => Below.heap_setCell _ _ _ _ (by have := hOq.out j hj; show j ≠ q; omega))
    have hQ11 : Hid ((w10.setCell ⟨q, 3, none⟩ (.int .i64 lo)).heap[q]? = some (.cells #[.int .i64 kd, .string key, .int .i64 n2, .int .i64 lo] 108 (0, 0))) := Lib.hid s3.out.2.1
    have hb4 := hQ11.out
    have z0 : (w10.setCell ⟨q, 3, none⟩ (.int .i64 lo)).cell? ⟨q, 0, none⟩ = some (.int .i64 kd) := by rw [block_cell hb4]; rfl
    have z1 : (w10.setCell ⟨q, 3, none⟩ (.int .i64 lo)).cell? ⟨q, 1, none⟩ = some (.string key) := by rw [block_cell hb4]; rfl
    have z2 : (w10.setCell ⟨q, 3, none⟩ (.int .i64 lo)).cell? ⟨q, 2, none⟩ = some (.int .i64 n2) := by rw [block_cell hb4]; rfl
    have z3 : (w10.setCell ⟨q, 3, none⟩ (.int .i64 lo)).cell? ⟨q, 3, none⟩ = some (.int .i64 lo) := by rw [block_cell hb4]; rfl
    clear hb4
    have hI11 := Lib.hid s3.out.1
    have hB11a := Lib.hid s3.out.2.2
    have hsz : Hid ((w10.setCell ⟨q, 3, none⟩ (.int .i64 lo)).heap.size = w10.heap.size) := Lib.hid (World.size_setCell _ _ _)
    have hsz2 : Hid (p + 1 ≤ w10.heap.size) := Lib.hid hI10.out.lt
    have hNEW : Hid ((⟨kd, key, n2, lo⟩ : POp).ok ∧ (⟨kd, key, n2, lo⟩ : POp).key.size ≤ 16) := Lib.hid ⟨⟨⟨by show (-9223372036854775808 : Int) ≤ kd; omega, by show (kd : Int) ≤ 9223372036854775807; omega⟩, hN2.out.1, hLO.out.1⟩, hkl⟩
    have hEQ : Hid (G → (⟨kd, key, n2, lo⟩ : POp) = o) := Lib.hid (fun g => by
      have h1 := hKG.out g
      have h2 := hKK.out g
      have h3 := hN2.out.2 g
      have h4 := hLO.out.2 g
      rw [h1, h2, h3, h4])
    have hB11 := Lib.hid (below_alloc (Below.refl _ (w10.setCell ⟨q, 3, none⟩ (.int .i64 lo))) (.cells #[.int .i64 kd, .string key, .int .i64 n2, .int .i64 lo] 108))
    have hrowA : Hid (RowAt ((w10.setCell ⟨q, 3, none⟩ (.int .i64 lo)).alloc (.cells #[.int .i64 kd, .string key, .int .i64 n2, .int .i64 lo] 108)) (some ⟨w10.heap.size, 0, none⟩) (opC ⟨kd, key, n2, lo⟩)) := Lib.hid (by
      have h := RowAt.made (w := w10.setCell ⟨q, 3, none⟩ (.int .i64 lo)) (cs := #[.int .i64 kd, .string key, .int .i64 n2, .int .i64 lo]) (T := 108) (xs := opC ⟨kd, key, n2, lo⟩) rfl
      rw [hsz.out] at h
      exact h)
    clear s3
    go_wp2_with (at_builtin; refine list_of_wp rfl ?_; refine wp_append_row (.tmp 48) (.tmp 50) 29 rfl (p + 1) 108 _ 4 40 Tryz.underlying29 Tryz.infoOp rfl (by decide) (by decide) u6 k (opsC l) rfl (own_below hO11.out hB11.out) (some ⟨w10.heap.size, 0, none⟩) 1 1 (opC ⟨kd, key, n2, lo⟩) rfl (fun h => by cases h) (Nat.le_refl _) rfl hrowA.out (by simp [opC, Value.oneCell']) (by omega) (by have h1 := hB11.out.size; have h2 := hsz.out; have h3 := hsz2.out; omega) ?_)
    intro v9 w12 hO12_ hg12_ _
    have hO12 := Lib.hid hO12_
    have hB12 := Lib.hid ((hB11a.out.trans (Below.mono hB11.out hB11a.out.size)).grown hg12_ (hB11a.out.trans (Below.mono hB11.out hB11a.out.size)).size (fun j hj => by have := hOq.out j hj; have := hpb.out; omega))
    have hI12 := Lib.hid ((hI11.out.later hB11.out).kept (Kept.of_grown' hg12_) (fun j hj => by have := hOq.out j hj; omega))
    clear hO12_ hg12_ z0 z1 z2 z3 x3 f3
    go_wp2_with fail
    go_roundw
    case rel => exact ⟨k + 1, l ++ [⟨kd, key, n2, lo⟩], by omega, by go_num, by simp [hLK.out], by rw [show opsC (l ++ [⟨kd, key, n2, lo⟩]) = opsC l ++ opC ⟨kd, key, n2, lo⟩ by simp [opsC]]; exact hO12.out, fun o ho => (List.mem_append.1 ho).elim (hOPS.out o) (fun h => by simp at h; subst h; exact hNEW.out), hI12.out, fun g => by
      obtain ⟨h2, h3⟩ := List.getElem?_eq_some_iff.1 (hX.out g)
      rw [List.take_succ_eq_append_getElem h2, h3, hLT.out g, hEQ.out g], hB12.out⟩
    case measure => simp [intOf]; omega
end Go.Proofs.YteeiacfddjhhkaaGreatDoor
