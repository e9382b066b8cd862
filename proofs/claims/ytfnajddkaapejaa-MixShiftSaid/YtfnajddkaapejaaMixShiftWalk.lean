/-
  The walk of MixShift.
-/
import Derived.Test.YtfnajddkaapejaaWorks
namespace Go.Proofs.Ytfnajddkaapejaa
open Go.RowKit
theorem shift_eq (s i k : BitVec 64) : (atI (U s) (IntKind.u64.wrap (U i + U k)) == atI (IntKind.u64.wrap (U s + IntKind.u64.wrap (U k * 11400714819323198485))) (U i)) = true := by
  rw [← U_gam, U_add, U_mul, U_add, atI_U, atI_U, atB_shift]
  exact beq_self_eq_true _
set_option maxHeartbeats 400000 in
theorem MixShift_walk (a0 a1 a2 : Int) (w0 : (Lit.int .u64 a0).wf = true) (w1 : (Lit.int .u64 a1).wf = true) (w2 : (Lit.int .u64 a2).wf = true) (w : World) :
    Calls Try.prog 5 #[.int .u64 a0, .int .u64 a1, .int .u64 a2] w fun e w' => e = .returned (.bool true) ∧ Grown w w' := by
  obtain ⟨s, rfl⟩ := U_of w0
  obtain ⟨i, rfl⟩ := U_of w1
  obtain ⟨k, rfl⟩ := U_of w2
  clear w0 w1 w2
  have e1 := shift_eq s i k
  go_enter Try.func5, Try.ntmps5
  go_wp2_with fail
  refine (at_any _ _ _).mono ?_
  rintro e w1 ⟨rfl, k1⟩
  go_wp2_with fail
  refine (at_any _ _ _).mono ?_
  rintro e w2 ⟨rfl, k2⟩
  go_wp2_with fail
  refine (works_any _).mono ?_
  rintro e w3 ⟨rfl, k3⟩
  go_wp2_with fail
  go_ret
  exact ⟨rfl, ((k1.kin k2).kin k3).grown⟩
end Go.Proofs.Ytfnajddkaapejaa
