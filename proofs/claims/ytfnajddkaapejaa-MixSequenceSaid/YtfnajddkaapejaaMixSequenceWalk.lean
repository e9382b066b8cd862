/-
  The walk of MixSequence.
-/
import Derived.Test.YtfnajddkaapejaaGen
namespace Go.Proofs.Ytfnajddkaapejaa
open Go.RowKit
set_option maxHeartbeats 1000000 in
theorem MixSequence_walk (a0 a1 : Int) (w0 : (Lit.int .u64 a0).wf = true) (w1 : (Lit.int .u8 a1).wf = true) (w : World) :
    Calls Try.prog 3 #[.int .u64 a0, .int .u8 a1] w fun e w' => e = .returned (.bool true) ∧ Grown w w' := by
  obtain ⟨s, rfl⟩ := U_of w0
  obtain ⟨m, rfl, hm⟩ := byte_of w1
  clear w0 w1
  go_enter Try.func3, Try.ntmps3
  go_wp2_with fail
  refine (genNew _ _).mono ?_
  rintro e w1 ⟨b, rfl, g0, hb, k0⟩
  go_wp2_with fail
  go_loopw [11] (fun i wr => ∃ k : Nat, k ≤ m ∧ i = .int .u64 k ∧ Gen wr b s k ∧ Kin w wr) (fun i _ => m - (intOf i).toNat)
  case atStart => exact ⟨0, Nat.zero_le _, rfl, g0, k0⟩
  case round =>
    obtain ⟨k, hk, rfl, g, kk⟩ := hrel
    clear g0 k0
    by_cases hlt : k < m
    · go_wp2_with fail
      refine (genPos b s k _ g).mono ?_
      rintro e w2 ⟨rfl, rfl⟩
      go_wp2_with fail
      refine (genNext b s k (by omega) _ g).mono ?_
      rintro e w2 ⟨rfl, g1, k1⟩
      go_wp2_with fail
      refine (at_any _ _ _).mono ?_
      rintro e w3 ⟨rfl, k2⟩
      go_wp2_with fail
      go_roundw
      case rel => exact ⟨k + 1, by omega, by go_num, g1.keep k2 (fun f => f), (kk.one k1 hb).kin k2⟩
      case measure => simp [intOf]; omega
    · have : k = m := by omega
      subst this
      go_wp2_with fail
      refine (genPos b s k _ g).mono ?_
      rintro e w2 ⟨rfl, rfl⟩
      go_wp2_with fail
      refine (works_any _).mono ?_
      rintro e w3 ⟨rfl, k3⟩
      go_wp2_with fail
      go_ret
      exact ⟨rfl, (kk.kin k3).grown⟩
end Go.Proofs.Ytfnajddkaapejaa
