/- Each call, of a net and of the document's net: the same answer, the same packets. The state of the two nets through a step of the law. -/
import Derived.Test.YteeiacfddjhhkaaGreatDoorPPart
import Derived.Test.YteeiacfddjhhkaaGreatDoorRNet3
import Derived.Test.YteeiacfddjhhkaaGreatDoorRNet4
import Derived.Test.YteeiacfddjhhkaaGreatDoorRNet5
import Derived.Test.YteeiacfddjhhkaaGreatDoorRNet7
import Derived.Test.YteeiacfddjhhkaaGreatDoorCut
namespace Go.Proofs.YteeiacfddjhhkaaGreatDoor
open Go.RowKit
set_option maxRecDepth 100000

structure Good (most : Int) (ks : List PK) : Prop where
  len : (ks.length : Int) ≤ most
  top : most ≤ 1024
  pk : ∀ k ∈ ks, (1 ≤ k.site ∧ k.site ≤ 3) ∧ k.b.length ≤ 100000 ∧ 0 ≤ k.waits ∧ k.waits ≤ 1000
theorem Good.small {most : Int} {ks : List PK} (h : Good most ks) : ks.length ≤ 1024 := by
  have := h.len
  have := h.top
  omega
theorem Good.at {most : Int} {ks : List PK} (h : Good most ks) {j : Nat} (hj : j < ks.length) : (1 ≤ ks[j].site ∧ ks[j].site ≤ 3) ∧ ks[j].b.length ≤ 100000 ∧ 0 ≤ ks[j].waits ∧ ks[j].waits ≤ 1000 := h.pk _ (List.getElem_mem hj)
theorem Good.erase {most : Int} {ks : List PK} (h : Good most ks) (j : Nat) : Good most (ks.eraseIdx j) :=
  ⟨by have := h.len; have := List.length_eraseIdx_le ks j; omega, h.top, fun k hk => h.pk k (List.mem_of_mem_eraseIdx hk)⟩
theorem Good.put {most : Int} {ks : List PK} (h : Good most ks) (j : Nat) (k : PK) (hk : (1 ≤ k.site ∧ k.site ≤ 3) ∧ k.b.length ≤ 100000 ∧ 0 ≤ k.waits ∧ k.waits ≤ 1000) : Good most (ks.set j k) :=
  ⟨by rw [List.length_set]; exact h.len, h.top, fun k' hk' => (List.mem_or_eq_of_mem_set hk').elim (h.pk k') (fun e => e ▸ hk)⟩
theorem Good.snoc {most : Int} {ks : List PK} (h : Good most ks) (hl : (ks.length : Int) < most) (k : PK) (hk : (1 ≤ k.site ∧ k.site ≤ 3) ∧ k.b.length ≤ 100000 ∧ 0 ≤ k.waits ∧ k.waits ≤ 1000) : Good most (ks ++ [k]) :=
  ⟨by rw [List.length_append]; simp; omega, h.top, fun k' hk' => by
    rcases List.mem_append.1 hk' with h' | h'
    · exact h.pk k' h'
    · simp at h'
      exact h' ▸ hk⟩
theorem Good.move {most : Int} {ks : List PK} (h : Good most ks) {i : Nat} (t : Nat) (hi : i < ks.length) (ht : t < ks.length) : Good most ((ks.eraseIdx i).insertIdx t ks[i]) :=
  ⟨by
    have h1 := List.length_eraseIdx_of_lt hi
    rw [List.length_insertIdx_of_le_length (by omega), h1]
    have := h.len
    omega, h.top, fun k hk => by
    have h1 := List.length_eraseIdx_of_lt hi
    rcases (List.mem_insertIdx (by omega)).1 hk with e | hm
    · exact e ▸ h.at hi
    · exact h.pk k (List.mem_of_mem_eraseIdx hm)⟩
theorem Good.tick {most : Int} {ks : List PK} (h : Good most ks) : Good most (ks.map tickK) :=
  ⟨by rw [List.length_map]; exact h.len, h.top, fun k hk => by
    obtain ⟨k0, hk0, rfl⟩ := List.mem_map.1 hk
    obtain ⟨h1, h2, h3, h4⟩ := h.pk k0 hk0
    refine ⟨h1, h2, ?_, ?_⟩
    · show 0 ≤ max (k0.waits - 1) 0
      omega
    · show max (k0.waits - 1) 0 ≤ 1000
      omega⟩
/-- What a net's call may change. -/
def NKept (p : Nat) (w w' : World) : Prop := Kept (fun k => NS w p k ∨ k + 1 = p) w w'
theorem NKept.of {p : Nat} {w w' : World} (h : Kept (NS w p) w w') : NKept p w w' := h.mono (fun _ hk => .inl hk)
theorem NKept.below {p : Nat} {w w' : World} (h : Below w.heap.size w w') : NKept p w w' := Kept.of_below _ h
def NStep (cz : Cuts) (p : Nat) (most : Int) (ks : List PK) (f : FuncId) (args : Array Value) (code : Int) (c2 : Cuts) (ks2 : List PK) : Prop :=
  ∀ w, GOk w → NetAt cz w p most ks → Calls Tryz.prog f args w fun e w' => e = .returned (.int .i64 code) ∧ NetAt c2 w' p most ks2 ∧ NKept p w w'
def RStep (cz : Cuts) (p : Nat) (most : Int) (ks : List PK) (f : FuncId) (args : Array Value) (code : Int) (c2 : Cuts) (ks2 : List PK) : Prop :=
  ∀ w, RefAt cz w p most ks → Calls Tryz.prog f args w fun e w' => e = .returned (.int .i64 code) ∧ RefAt c2 w' p most ks2 ∧ Kept (· = p) w w'
variable {cz : Cuts}
theorem NStep.of_ns {p : Nat} {most : Int} {ks : List PK} {f : FuncId} {args : Array Value} {code : Int} {ks2 : List PK}
    (h : ∀ w, GOk w → NetAt cz w p most ks → Calls Tryz.prog f args w fun e w' => e = .returned (.int .i64 code) ∧ NetAt cz w' p most ks2 ∧ Kept (NS w p) w w') : NStep cz p most ks f args code cz ks2 :=
  fun w hG hN => (h w hG hN).mono fun e w' ⟨a, b, c⟩ => ⟨a, b, .of c⟩
theorem NStep.of_below {p : Nat} {most : Int} {ks : List PK} {f : FuncId} {args : Array Value} {code : Int}
    (h : ∀ w, GOk w → NetAt cz w p most ks → Calls Tryz.prog f args w fun e w' => e = .returned (.int .i64 code) ∧ Below w.heap.size w w') : NStep cz p most ks f args code cz ks :=
  fun w hG hN => (h w hG hN).mono fun e w' ⟨a, b⟩ => ⟨a, hN.later b, .below b⟩
theorem does_none {most : Int} {ks : List PK} (q : Nat) (kind i n : Int) (hi : i < 0 ∨ (ks.length : Int) ≤ i) :
    RStep cz q most ks 51 #[.pointer (some ⟨q, 0, none⟩), .int .i64 kind, .int .i64 i, .int .i64 n] 3 cz ks :=
  fun w hR => (rdoes_none q most ks kind i n w hR hi).mono fun e w' ⟨a, b⟩ => ⟨a, b ▸ hR, b ▸ Kept.refl _ _⟩
theorem drop_pair {most : Int} {ks : List PK} (hg : Good most ks) (p q : Nat) (i : Int) : ∃ code ks2,
    NStep cz p most ks 19 #[.pointer (some ⟨p, 0, none⟩), .int .i64 i] code cz ks2 ∧
    RStep cz q most ks 51 #[.pointer (some ⟨q, 0, none⟩), .int .i64 0, .int .i64 i, .int .i64 0] code cz ks2 ∧ Good most ks2 := by
  have hsm := hg.small
  rcases int_cases i ks.length with ⟨j, rfl, hj⟩ | hi
  · have hk : ks[j]? = some ks[j] := List.getElem?_eq_getElem hj
    exact ⟨0, ks.eraseIdx j, .of_ns (fun w hG hN => Drop_ok p most ks j ks[j] w hN hk (by omega)), fun w hR => rdrop_ok q most ks j ks[j] 0 w hR hk (by omega), hg.erase j⟩
  · exact ⟨3, ks, .of_below (fun w hG hN => Drop_none p most ks i w hG hN hi), does_none q 0 i 0 hi, hg⟩
theorem twice_pair {most : Int} {ks : List PK} (hg : Good most ks) (p q : Nat) (i : Int) : ∃ code ks2,
    NStep cz p most ks 20 #[.pointer (some ⟨p, 0, none⟩), .int .i64 i] code cz ks2 ∧
    RStep cz q most ks 51 #[.pointer (some ⟨q, 0, none⟩), .int .i64 1, .int .i64 i, .int .i64 0] code cz ks2 ∧ Good most ks2 := by
  have hsm := hg.small
  rcases int_cases i ks.length with ⟨j, rfl, hj⟩ | hi
  · have hk : ks[j]? = some ks[j] := List.getElem?_eq_getElem hj
    by_cases hf : (ks.length : Int) < most
    · exact ⟨0, ks ++ [twiceK ks[j]], .of_ns (fun w hG hN => Twice_ok p most ks j ks[j] w hN hk (by omega) hf), fun w hR => rtwice_ok q most ks j ks[j] 0 w hR hk (by omega) hf, hg.snoc hf _ ⟨(hg.at hj).1, (hg.at hj).2.1, Int.le_refl _, by show (0 : Int) ≤ 1000; decide⟩⟩
    · exact ⟨5, ks, .of_below (fun w hG hN => Twice_full p most ks j w hG hN hj (by omega) (by omega)), fun w hR => rtwice_full q most ks j ks[j] 0 w hR hk (by omega) (by omega), hg⟩
  · exact ⟨3, ks, .of_below (fun w hG hN => Twice_none p most ks i w hG hN hi), does_none q 1 i 0 hi, hg⟩
theorem move_pair {most : Int} {ks : List PK} (hg : Good most ks) (p q : Nat) (i n : Int) : ∃ code ks2,
    NStep cz p most ks 21 #[.pointer (some ⟨p, 0, none⟩), .int .i64 i, .int .i64 n] code cz ks2 ∧
    RStep cz q most ks 51 #[.pointer (some ⟨q, 0, none⟩), .int .i64 2, .int .i64 i, .int .i64 n] code cz ks2 ∧ Good most ks2 := by
  have hsm := hg.small
  rcases int_cases i ks.length with ⟨j, rfl, hj⟩ | hi
  · have hk : ks[j]? = some ks[j] := List.getElem?_eq_getElem hj
    rcases int_cases n ks.length with ⟨t, rfl, ht⟩ | hn
    · exact ⟨0, (ks.eraseIdx j).insertIdx t ks[j], .of_ns (fun w hG hN => Move_ok p most ks j t ks[j] w hN hk ht (by omega)), fun w hR => rmove_ok q most ks j ks[j] t w hR hk (by omega) ht, hg.move t hj ht⟩
    · exact ⟨2, ks, .of_below (fun w hG hN => Move_bad p most ks j n w hG hN hj hn), fun w hR => rmove_bad q most ks j ks[j] n w hR hk (by omega) hn, hg⟩
  · exact ⟨3, ks, .of_below (fun w hG hN => Move_none p most ks i n w hG hN hi), does_none q 2 i n hi, hg⟩
theorem hold_pair {most : Int} {ks : List PK} (hg : Good most ks) (p q : Nat) (i n : Int) : ∃ code ks2,
    NStep cz p most ks 22 #[.pointer (some ⟨p, 0, none⟩), .int .i64 i, .int .i64 n] code cz ks2 ∧
    RStep cz q most ks 51 #[.pointer (some ⟨q, 0, none⟩), .int .i64 3, .int .i64 i, .int .i64 n] code cz ks2 ∧ Good most ks2 := by
  have hsm := hg.small
  rcases int_cases i ks.length with ⟨j, rfl, hj⟩ | hi
  · have hk : ks[j]? = some ks[j] := List.getElem?_eq_getElem hj
    by_cases hn : 0 ≤ n ∧ n ≤ 1000
    · exact ⟨0, ks.set j { ks[j] with waits := n }, .of_ns (fun w hG hN => Hold_ok p most ks j ks[j] n w hN hk hn), fun w hR => rhold_ok q most ks j ks[j] n w hR hk (by omega) hn, hg.put j _ ⟨(hg.at hj).1, (hg.at hj).2.1, hn.1, hn.2⟩⟩
    · exact ⟨2, ks, .of_below (fun w hG hN => Hold_bad p most ks j n w hG hN hj (by omega)), fun w hR => rhold_bad q most ks j ks[j] n w hR hk (by omega) (by omega), hg⟩
  · exact ⟨3, ks, .of_below (fun w hG hN => Hold_none p most ks i n w hG hN hi), does_none q 3 i n hi, hg⟩
theorem spoil_pair {most : Int} {ks : List PK} (hg : Good most ks) (p q : Nat) (i n : Int) : ∃ code ks2,
    NStep cz p most ks 23 #[.pointer (some ⟨p, 0, none⟩), .int .i64 i, .int .i64 n] code cz ks2 ∧
    RStep cz q most ks 51 #[.pointer (some ⟨q, 0, none⟩), .int .i64 4, .int .i64 i, .int .i64 n] code cz ks2 ∧ Good most ks2 := by
  have hsm := hg.small
  rcases int_cases i ks.length with ⟨j, rfl, hj⟩ | hi
  · have hk : ks[j]? = some ks[j] := List.getElem?_eq_getElem hj
    rcases int_cases n (8 * ks[j].b.length) with ⟨t, rfl, ht⟩ | hn
    · exact ⟨0, ks.set j { ks[j] with b := turnB ks[j].b t }, .of_ns (fun w hG hN => Spoil_ok p most ks j ks[j] t w hN hk ht), fun w hR => rspoil_ok q most ks j ks[j] t w hR hk (by omega) ht, hg.put j _ ⟨(hg.at hj).1, by show (turnB _ _).length ≤ 100000; rw [turnB_len]; exact (hg.at hj).2.1, (hg.at hj).2.2⟩⟩
    · have hn' : n < 0 ∨ 8 * (ks[j].b.length : Int) ≤ n := by omega
      exact ⟨2, ks, .of_below (fun w hG hN => Spoil_bad p most ks j ks[j] n w hG hN hk hn'), fun w hR => rspoil_bad q most ks j ks[j] n w hR hk (by omega) hn', hg⟩
  · exact ⟨3, ks, .of_below (fun w hG hN => Spoil_none p most ks i n w hG hN hi), does_none q 4 i n hi, hg⟩
theorem part_pair (most : Int) (ks : List PK) (p q : Nat) (x : Int) : ∃ code c2,
    NStep cz p most ks 28 #[.pointer (some ⟨p, 0, none⟩), .int .i64 x] code c2 ks ∧
    RStep cz q most ks 52 #[.pointer (some ⟨q, 0, none⟩), .int .i64 x, .bool true] code c2 ks :=
  ⟨_, _, fun w hG hN => (Part_any p most ks x w hG hN).mono fun e w' ⟨a, b, c⟩ => ⟨a, b, c.mono fun _ h => .inr h⟩, fun w hR => rpart_any q most ks x true w hR⟩
theorem heal_pair (most : Int) (ks : List PK) (p q : Nat) (x : Int) : ∃ code c2,
    NStep cz p most ks 29 #[.pointer (some ⟨p, 0, none⟩), .int .i64 x] code c2 ks ∧
    RStep cz q most ks 52 #[.pointer (some ⟨q, 0, none⟩), .int .i64 x, .bool false] code c2 ks :=
  ⟨_, _, fun w hG hN => (Heal_any p most ks x w hG hN).mono fun e w' ⟨a, b, c⟩ => ⟨a, b, c.mono fun _ h => .inr h⟩, fun w hR => rpart_any q most ks x false w hR⟩
theorem tick_net (p : Nat) (most : Int) (ks : List PK) (w : World) (hg : Good most ks) (h : NetAt cz w p most ks) :
    Calls Tryz.prog 24 #[.pointer (some ⟨p, 0, none⟩)] w fun e w' => e = .returned (.tuple #[]) ∧ NetAt cz w' p most (ks.map tickK) ∧ NKept p w w' :=
  (Tick_net p most ks w h (by have := hg.small; omega)).mono fun e w' ⟨a, b, c⟩ => ⟨a, by rw [← tickN_all]; exact b, .of c⟩
theorem tick_ref (q : Nat) (most : Int) (ks : List PK) (w : World) (hg : Good most ks) (h : RefAt cz w q most ks) :
    Calls Tryz.prog 53 #[.pointer (some ⟨q, 0, none⟩)] w fun e w' => e = .returned (.tuple #[]) ∧ RefAt cz w' q most (ks.map tickK) ∧ Kept (· = q) w w' :=
  rtick_any q most ks w h (by have := hg.small; omega) (fun k hk => (hg.pk k hk).2.2)
/-- A message that a Deliver hands back. -/
def DRet (m : PMsg) (code : Int) (w : World) (e : Ending) (w' : World) : Prop := ∃ A c B d, e = .returned (.tuple #[.agg (msgA m A c B d), .int .i64 code]) ∧ MsgR w' m A c B d ∧ FreshM w A B
def zmM : PMsg := ⟨0, 0, 0, 0, 0, 0, 0, 0, 0, [], []⟩
theorem DRet.zero (code : Int) (w w' : World) : DRet zmM code w (.returned (.tuple #[zeroV, .int .i64 code])) w' :=
  ⟨none, 0, none, 0, rfl, ⟨RowAt.nil _ _, RowAt.nil _ _, by simp [zmM], by simp [zmM], by simp [zmM], by simp [zmM], by simp [zmM], by simp [zmM, i64ok]⟩, (fun _ h => by cases h), (fun _ h => by cases h)⟩
def NDel (cz : Cuts) (p : Nat) (most : Int) (ks : List PK) (i : Int) (m : PMsg) (code : Int) (ks2 : List PK) : Prop :=
  ∀ w, GOk w → NetAt cz w p most ks → Calls Tryz.prog 11 #[.pointer (some ⟨p, 0, none⟩), .int .i64 i] w fun e w' => DRet m code w e w' ∧ NetAt cz w' p most ks2 ∧ NKept p w w'
def RDel (cz : Cuts) (p : Nat) (most : Int) (ks : List PK) (i : Int) (m : PMsg) (code : Int) (ks2 : List PK) : Prop :=
  ∀ w, RefAt cz w p most ks → Calls Tryz.prog 50 #[.pointer (some ⟨p, 0, none⟩), .int .i64 i] w fun e w' => DRet m code w e w' ∧ RefAt cz w' p most ks2 ∧ Kept (· = p) w w'
theorem del_pair {most : Int} {ks : List PK} (hg : Good most ks) (p q : Nat) (i : Int) : ∃ m code ks2, NDel cz p most ks i m code ks2 ∧ RDel cz q most ks i m code ks2 ∧ Good most ks2 := by
  have hsm := hg.small
  rcases int_cases i ks.length with ⟨j, rfl, hj⟩ | hi
  · have hk : ks[j]? = some ks[j] := List.getElem?_eq_getElem hj
    obtain ⟨hs, hbl, hw0, hw1⟩ := hg.at hj
    have hsi : i64ok ks[j].site := by simp only [i64ok]; omega
    by_cases hw : 0 < ks[j].waits
    · refine ⟨zmM, 20, ks, fun w hG hN => (Deliver_busy p most ks j ks[j] w hG hN hk hw).mono ?_, fun w hR => (rdel_busy q most ks j ks[j] w hR hk hs (.inl hw)).mono ?_, hg⟩
      · rintro e w' ⟨rfl, hb⟩
        exact ⟨DRet.zero _ _ _, hN.later hb, .below hb⟩
      · rintro e w' ⟨rfl, hb, hc⟩
        exact ⟨DRet.zero _ _ _, hb, hc⟩
    · have hwz : ks[j].waits = 0 := by omega
      cases hcz : cutAt cz ks[j].site
      · by_cases hG : ∃ m : PMsg, mayM m = true ∧ encM m = ks[j].b ∧ okM m
        · obtain ⟨m, hm, hb, hok⟩ := id hG
          refine ⟨m, 0, _, fun w hGk hN => (Deliver_good p most ks j ks[j] m w hGk hN hk hwz hcz hsi (by omega) hb.symm hm hok).mono ?_, fun w hR => (rdel_any True m q most ks j ks[j] w hR hk hs (by omega) hcz (by omega) hbl (fun _ => ⟨hm, hb, hok⟩) (fun h => (h trivial).elim)).mono ?_, hg.erase j⟩
          · rintro e w' ⟨A, c, B, d, rfl, hM, hF, hN', hK⟩
            exact ⟨⟨A, c, B, d, rfl, hM, hF⟩, hN', .of hK⟩
          · rintro e w' ⟨⟨_, A, c, B, d, rfl, hM, hF⟩ | ⟨hx, _⟩, hR', hK⟩
            · exact ⟨⟨A, c, B, d, rfl, hM, hF⟩, hR', hK⟩
            · exact (hx trivial).elim
        · have hno : ∀ m' : PMsg, mayM m' = true → okM m' → encM m' ≠ ks[j].b := fun m' h1 h2 h3 => hG ⟨m', h1, h3, h2⟩
          refine ⟨zmM, 6, _, fun w hGk hN => (Deliver_bad p most ks j ks[j] w hGk hN hk hwz hcz hsi (by omega) hbl hno).mono ?_, fun w hR => (rdel_any False zmM q most ks j ks[j] w hR hk hs (by omega) hcz (by omega) hbl (fun h => h.elim) (fun _ => hno)).mono ?_, hg.erase j⟩
          · rintro e w' ⟨rfl, hN', hK⟩
            exact ⟨DRet.zero _ _ _, hN', .of hK⟩
          · rintro e w' ⟨⟨hx, _⟩ | ⟨_, rfl⟩, hR', hK⟩
            · exact hx.elim
            · exact ⟨DRet.zero _ _ _, hR', hK⟩
      · refine ⟨zmM, 20, ks, fun w hG hN => (Deliver_cut p most ks j ks[j] w hG hN hk hwz hcz hsi).mono ?_, fun w hR => (rdel_busy q most ks j ks[j] w hR hk hs (.inr hcz)).mono ?_, hg⟩
        · rintro e w' ⟨rfl, hb⟩
          exact ⟨DRet.zero _ _ _, hN.later hb, .below hb⟩
        · rintro e w' ⟨rfl, hb, hc⟩
          exact ⟨DRet.zero _ _ _, hb, hc⟩
  · refine ⟨zmM, 3, ks, fun w hG hN => (Deliver_none p most ks i w hG hN hi).mono ?_, fun w hR => (rdel_none q most ks i w hR hi).mono ?_, hg⟩
    · rintro e w' ⟨rfl, hb⟩
      exact ⟨DRet.zero _ _ _, hN.later hb, .below hb⟩
    · rintro e w' ⟨rfl, hb, hc⟩
      exact ⟨DRet.zero _ _ _, hb, hc⟩
theorem send_good {most : Int} {ks : List PK} (hg : Good most ks) (m : PMsg) : Good most (send1 cz most ks m) := by
  rw [send1_goes]
  cases hgo : goesM cz most ks m
  · exact hg
  · simp only [goesM, Bool.and_eq_true, decide_eq_true_eq] at hgo
    obtain ⟨⟨h1, _⟩, h3⟩ := hgo
    have hw := way_site h1
    exact hg.snoc h3 _ ⟨hw.2, by show (encM m).length ≤ 100000; have := @encM_len m; omega, Int.le_refl _, by show (0 : Int) ≤ 1000; decide⟩
theorem send_count (most : Int) (ks : List PK) (m : PMsg) : ((send1 cz most ks m).length : Int) - ks.length = if goesM cz most ks m then 1 else 0 := by
  rw [send1_goes]
  cases goesM cz most ks m
  · simp
  · rw [if_pos rfl, if_pos rfl, List.length_append]
    simp
    omega
end Go.Proofs.YteeiacfddjhhkaaGreatDoor
namespace Go.Proofs.YteeiacfddjhhkaaGreatDoor
open Go.RowKit
set_option maxRecDepth 100000

/-- Both nets, behind the law's memory W. -/
structure St (W : World) (p q : Nat) (most : Int) (cz : Cuts) (ks : List PK) (cr : Cuts) (kr : List PK) (wr : World) : Prop where
  net : NetAt cz wr p most ks
  ref : RefAt cr wr q most kr
  below : Below W.heap.size W wr
variable {W wr : World} {p q : Nat} {most : Int} {cz cr : Cuts} {ks kr : List PK}
theorem St.later (h : St W p q most cz ks cr kr wr) {w' : World} (hb : Below wr.heap.size wr w') : St W p q most cz ks cr kr w' :=
  ⟨h.net.later hb, h.ref.later hb, bnext h.below hb⟩
/-- A block of the law's own was stored to. -/
theorem St.store (h : St W p q most cz ks cr kr wr) {w2 w3 : World} {b : Nat} {cur : Array Value} {T : TypeId} {fr : Nat × Nat} (hb : Below wr.heap.size wr w2) (hk : Kept (· = b) w2 w3) (hbw : W.heap.size ≤ b) (hq2 : w2.heap[b]? = some (.cells cur T fr))
    (hT : T ≠ 77 ∧ T ≠ 71 ∧ T ≠ 5 ∧ T ≠ 97 ∧ T ≠ 60) : St W p q most cz ks cr kr w3 := by
  have h2 := h.later hb
  refine ⟨h2.net.keptS hk (fun k o e ho => ?_), h2.ref.keptS hk (fun k cur' T' fr' e ho => ?_), h2.below.trans (hk.to_below h2.below.size (fun k e => by subst e; exact hbw))⟩
  · subst e
    rw [hq2] at ho
    cases ho
    exact ⟨_, _, _, rfl, hT.1, hT.2.1, hT.2.2.1⟩
  · subst e
    rw [hq2] at ho
    cases ho
    exact ⟨hT.2.2.2.1, hT.2.2.2.2, hT.2.2.1⟩
theorem NetAt.map_block {w : World} (h : NetAt cz w p most ks) {k : Nat} (hk : k + 1 = p) {cur : Array Value} {T : TypeId} {fr : Nat × Nat} (hb : w.heap[k]? = some (.cells cur T fr)) : False := by
  obtain ⟨A, c, mb, mk, vs, h1, h2, h3, _⟩ := h
  obtain rfl : mb = k := by omega
  rw [h2] at hb
  cases hb
theorem St.nstep (h : St W p q most cz ks cr kr wr) {w' : World} {c2 : Cuts} {ks2 : List PK} (hp : W.heap.size < p) (hN : NetAt c2 w' p most ks2) (hK : NKept p wr w') : St W p q most c2 ks2 cr kr w' := by
  refine ⟨hN, h.ref.keptS hK (fun k cur T fr e ho => ?_), h.below.trans (hK.to_below h.below.size (fun k e => ?_))⟩
  · rcases e with ⟨_, cur', T', fr', hb, hT⟩ | e
    · rw [ho] at hb
      cases hb
      rcases hT with rfl | rfl <;> decide
    · exact (h.net.map_block e ho).elim
  · rcases e with e | e
    · have := e.1
      omega
    · omega
theorem St.rstep (h : St W p q most cz ks cr kr wr) {w' : World} {c2 : Cuts} {kr2 : List PK} (hq : W.heap.size ≤ q) (hR : RefAt c2 w' q most kr2) (hK : Kept (· = q) wr w') : St W p q most cz ks c2 kr2 w' := by
  refine ⟨h.net.keptS hK (fun k o e ho => ?_), hR, h.below.trans (hK.to_below h.below.size (fun k e => by subst e; exact hq))⟩
  subst e
  obtain ⟨A, c, vs, h1, _⟩ := h.ref
  rw [h1] at ho
  cases ho
  exact ⟨_, _, _, rfl, by decide, by decide, by decide⟩
theorem St.nblock (h : St W p q most cz ks cr kr wr) {w' : World} (hK : NKept p wr w') {b : Nat} {cur : Array Value} {T : TypeId} {fr : Nat × Nat} (hb : wr.heap[b]? = some (.cells cur T fr)) (hT : T ≠ 77 ∧ T ≠ 71) : w'.heap[b]? = some (.cells cur T fr) :=
  (hK.block b (lt_of_block hb) (fun e => by
    rcases e with ⟨_, cur', T', fr', hb', hT'⟩ | e
    · rw [hb] at hb'
      cases hb'
      exact hT'.elim hT.1 hT.2
    · exact h.net.map_block e hb)).trans hb
theorem St.rblock (h : St W p q most cz ks cr kr wr) {w' : World} (hK : Kept (· = q) wr w') {b : Nat} {cur : Array Value} {T : TypeId} {fr : Nat × Nat} (hb : wr.heap[b]? = some (.cells cur T fr)) (hT : T ≠ 60) : w'.heap[b]? = some (.cells cur T fr) :=
  (hK.block b (lt_of_block hb) (fun e => by
    subst e
    obtain ⟨A, c, vs, h1, _⟩ := h.ref
    rw [h1] at hb
    cases hb
    exact hT rfl)).trans hb
theorem St.rmsg (h : St W p q most cz ks cr kr wr) {w' : World} (hK : Kept (· = q) wr w') {w0 : World} {m : PMsg} {A : Option Addr} {c : Nat} {B : Option Addr} {d : Nat} (hM : MsgR wr m A c B d) (hF : FreshM w0 A B) (hq : q < w0.heap.size) : MsgR w' m A c B d :=
  hM.keptS hK (.inr fun ad e e2 => by have := hF.1 ad e; omega) (.inr fun ad e e2 => by have := hF.2 ad e; omega)
theorem sendN_one (x : MV) : sendN cz most ks ([x].map (·.m)) = send1 cz most ks x.m := by
  simp only [sendN, List.map_cons, List.map_nil, List.foldl_cons, List.foldl_nil]
/-- One message sent. -/
theorem send_one (x : MV) (L : Option Addr) (w : World) (hG : GOk w) (h : NetAt cz w p most ks) (hr : RowAt w L (mvsC [x])) (hL : ∀ ad, L = some ad → ¬ NS w p ad.block)
    (hm : MsgR w x.m x.A x.c x.B x.d ∧ (i64s x.m.told = [] ∨ ∀ ad, x.A = some ad → ¬ NS w p ad.block) ∧ (opsC x.m.ops = [] ∨ ∀ ad, x.B = some ad → ¬ NS w p ad.block)) (hlen : ks.length ≤ 1024) {go : Bool} {k8 : List PK} (hgo : go = goesM cz most ks x.m) (hk8 : k8 = send1 cz most ks x.m) :
    Calls Tryz.prog 9 #[.pointer (some ⟨p, 0, none⟩), .slice L 1 1] w fun e w' => e = .returned (.int .i64 (if go = true then 1 else 0)) ∧ NetAt cz w' p most k8 ∧ Kept (NS w p) w w' := by
  have hS := Send_any (cz := cz) p most ks [x] L 1 w hG h hr hL (fun y hy => by
    rw [List.mem_singleton] at hy
    rw [hy]
    exact hm) (by rw [List.length_singleton]; omega)
  rw [sendN_one, send_count, ← hgo, ← hk8] at hS
  exact hS
theorem rsend_one (m : PMsg) (A : Option Addr) (c : Nat) (B : Option Addr) (d : Nat) (w : World) (h : RefAt cz w q most ks) (hr : MsgR w m A c B d) (hl : ks.length ≤ 1024) {go : Bool} {k8 : List PK} (hgo : go = goesM cz most ks m) (hk8 : k8 = send1 cz most ks m) :
    Calls Tryz.prog 49 #[.pointer (some ⟨q, 0, none⟩), .agg (msgA m A c B d)] w fun e w' => e = .returned (.bool go) ∧ RefAt cz w' q most k8 ∧ Kept (· = q) w w' := by
  have hS := rsend_any (cz := cz) q most ks m A c B d w h hr (by omega)
  rw [← hgo, ← hk8] at hS
  exact hS
/-- What a step answers. -/
def StepRet (W : World) (p q : Nat) (most : Int) (e : Ending) (w' : World) : Prop := e = .returned (.bool true) ∧ ∃ c2 ks2, St W p q most c2 ks2 c2 ks2 w' ∧ Good most ks2
theorem op_cases (k : Int) : k = 0 ∨ k = 1 ∨ k = 2 ∨ k = 3 ∨ k = 4 ∨ k = 5 ∨ k = 6 ∨ k = 7 ∨ k = 8 ∨ k = 9 ∨ k = 10 ∨ k = 11 ∨ ((k == 0) = false ∧ (k == 1) = false ∧ (k == 2) = false ∧ (k == 3) = false ∧ (k == 4) = false ∧ (k == 5) = false ∧ (k == 6) = false ∧ (k == 7) = false ∧ (k == 8) = false ∧ (k == 9) = false ∧ (k == 10) = false ∧ (k == 11) = false) := by
  simp only [beq_eq_false_iff_ne]
  omega
end Go.Proofs.YteeiacfddjhhkaaGreatDoor
