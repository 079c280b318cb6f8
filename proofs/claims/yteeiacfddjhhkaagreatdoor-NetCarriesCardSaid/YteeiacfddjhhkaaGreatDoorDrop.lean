/- net.Drop. -/
import Derived.Test.YteeiacfddjhhkaaGreatDoorGone
namespace Go.Proofs.YteeiacfddjhhkaaGreatDoor
open Go.RowKit
set_option maxRecDepth 100000

theorem Drop_ok (p : Nat) (most : Int) (ks : List PK) (i : Nat) (k : PK) (w : World) (h : NetAt w p most ks) (hk : ks[i]? = some k) (hl : ks.length ≤ 100000) :
    Calls Tryz.prog 19 #[.pointer (some ⟨p, 0, none⟩), .int .i64 i] w fun e w' => e = .returned (.int .i64 0) ∧ NetAt w' p most (ks.eraseIdx i) ∧ Kept (NS w p) w w' := by
  have hi : i < ks.length := (List.getElem?_eq_some_iff.1 hk).1
  have hN := Lib.hid h
  have hK := Lib.hid hk
  clear h hk
  go_enter Tryz.func19, Tryz.ntmps19
  go_wp2_with fail
  refine (at_ok p most ks i _ hN.out hi).mono ?_
  rintro e w1 ⟨rfl, rfl⟩
  go_wp2_with fail
  refine (gone_any p most ks i k _ hN.out hK.out hl).mono ?_
  rintro e w1 ⟨v, rfl, _, h2_, h3_⟩
  have h2 := Lib.hid h2_
  have h3 := Lib.hid h3_
  clear h2_ h3_
  go_wp2_with fail
  go_ret
  exact ⟨rfl, h2.out, h3.out⟩
end Go.Proofs.YteeiacfddjhhkaaGreatDoor
