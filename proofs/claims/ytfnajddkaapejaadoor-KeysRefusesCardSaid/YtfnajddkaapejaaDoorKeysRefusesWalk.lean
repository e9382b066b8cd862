/-
  The walk of KeysRefuses.
-/
import Derived.Test.YtfnajddkaapejaaDoorKWorks
namespace Go.Proofs.YtfnajddkaapejaaDoor
open Go.RowKit
theorem castleE_neg (m : Nat) : (castleE (-(m : Int)) == 3) = true := by
  unfold castleE
  rw [if_neg (by omega)]
  rfl
theorem castleE_far (m : Nat) : (castleE (9 + (m : Int)) == 3) = true := by
  unfold castleE
  rw [if_neg (by omega)]
  rfl
theorem word_of {n : Int} (h : (Lit.int .u16 n).wf = true) : ∃ m : Nat, n = (m : Int) ∧ m ≤ 65535 := by
  have := bounds_u16 h
  exact ⟨n.toNat, by omega, by omega⟩
set_option maxRecDepth 100000 in
set_option maxHeartbeats 2000000 in
theorem KeysRefuses_walk (a0 : Int) (w0 : (Lit.int .u16 a0).wf = true) (w : World) (hR : Rights w) :
    Calls Tryd.prog 3 #[.int .u16 a0] w fun e w' => e = .returned (.bool true) ∧ Grown w w' := by
  obtain ⟨m, rfl, hm⟩ := word_of w0
  clear w0
  have e1 := castleE_neg m
  have e2 := castleE_far m
  have R := Lib.hid hR
  clear hR
  go_enter Tryd.func3, Tryd.ntmps3
  go_wp2_with fail
  refine (of_other _ _ _ (by omega) (by omega) (by omega)).mono ?_
  rintro e w1 ⟨rfl, k1⟩
  go_wp2_with fail
  refine (of_other _ _ _ (by omega) (by omega) (by omega)).mono ?_
  rintro e w2 ⟨rfl, k2⟩
  go_wp2_with fail
  refine (ofStd _ _).mono ?_
  rintro e w3 ⟨t, rfl, ht, k3⟩
  have K3 := (k1.kin k2).kin k3
  have R3 := Lib.hid (R.out.keep K3)
  clear k1 k2 k3
  go_wp2_with fail
  refine (key_out ht _ (by omega)).mono ?_
  rintro e w4 ⟨rfl, rfl⟩
  go_wp2_with fail
  refine (key_out ht _ (by omega)).mono ?_
  rintro e w4 ⟨rfl, rfl⟩
  go_wp2_with fail
  refine (piece_out _ _ _ (by omega)).mono ?_
  rintro e w4 ⟨rfl, rfl⟩
  go_wp2_with fail
  refine (piece_out _ _ _ (by omega)).mono ?_
  rintro e w4 ⟨rfl, rfl⟩
  go_wp2_with fail
  refine (piece_out _ _ _ (by omega)).mono ?_
  rintro e w4 ⟨rfl, rfl⟩
  go_wp2_with fail
  refine (piece_out _ _ _ (by omega)).mono ?_
  rintro e w4 ⟨rfl, rfl⟩
  go_wp2_with fail
  refine (castle_any _ _ R3.out).mono ?_
  rintro e w4 ⟨rfl, rfl⟩
  go_wp2_with fail
  refine (castle_any _ _ R3.out).mono ?_
  rintro e w4 ⟨rfl, rfl⟩
  go_wp2_with fail
  refine (file_out _ _ (by omega)).mono ?_
  rintro e w4 ⟨rfl, rfl⟩
  go_wp2_with fail
  refine (file_out _ _ (by omega)).mono ?_
  rintro e w4 ⟨rfl, rfl⟩
  go_wp2_with fail
  refine (works_any _ R3.out).mono ?_
  rintro e w5 ⟨rfl, k5⟩
  go_wp2_with fail
  go_ret
  exact ⟨rfl, (K3.kin k5).grown⟩
end Go.Proofs.YtfnajddkaapejaaDoor
