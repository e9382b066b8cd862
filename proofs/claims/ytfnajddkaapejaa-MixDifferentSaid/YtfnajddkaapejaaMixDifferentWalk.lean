/-
  The walk of MixDifferent.
-/
import Derived.Test.YtfnajddkaapejaaWorks
namespace Go.Proofs.Ytfnajddkaapejaa
open Go.RowKit
theorem diff_index (a i k : BitVec 64) : (atI (U a) (U i) == atI (U a) (U k)) = (U i == U k) := by
  rw [atI_U, atI_U]
  by_cases h : i = k
  · subst h; simp
  · have h1 : ¬ U i = U k := fun e => h (U_inj.1 e)
    have h2 : ¬ U (atB a i) = U (atB a k) := fun e => h (atB_index (U_inj.1 e))
    rw [beq_eq_false_iff_ne.2 h1, beq_eq_false_iff_ne.2 h2]
theorem diff_seed (a b i : BitVec 64) : (atI (U a) (U i) == atI (U b) (U i)) = (U a == U b) := by
  rw [atI_U, atI_U]
  by_cases h : a = b
  · subst h; simp
  · have h1 : ¬ U a = U b := fun e => h (U_inj.1 e)
    have h2 : ¬ U (atB a i) = U (atB b i) := fun e => h (atB_seed (U_inj.1 e))
    rw [beq_eq_false_iff_ne.2 h1, beq_eq_false_iff_ne.2 h2]
set_option maxHeartbeats 400000 in
theorem MixDifferent_walk (a0 a1 a2 a3 : Int) (w0 : (Lit.int .u64 a0).wf = true) (w1 : (Lit.int .u64 a1).wf = true) (w2 : (Lit.int .u64 a2).wf = true) (w3 : (Lit.int .u64 a3).wf = true) (w : World) :
    Calls Try.prog 4 #[.int .u64 a0, .int .u64 a1, .int .u64 a2, .int .u64 a3] w fun e w' => e = .returned (.bool true) ∧ Grown w w' := by
  obtain ⟨a, rfl⟩ := U_of w0
  obtain ⟨b, rfl⟩ := U_of w1
  obtain ⟨i, rfl⟩ := U_of w2
  obtain ⟨k, rfl⟩ := U_of w3
  clear w0 w1 w2 w3
  have e1 := diff_index a i k
  have e2 := diff_seed a b i
  go_enter Try.func4, Try.ntmps4
  go_wp2_with fail
  refine (at_any _ _ _).mono ?_
  rintro e w1 ⟨rfl, k1⟩
  go_wp2_with fail
  refine (at_any _ _ _).mono ?_
  rintro e w2 ⟨rfl, k2⟩
  go_wp2_with fail
  refine (at_any _ _ _).mono ?_
  rintro e w3 ⟨rfl, k3⟩
  go_wp2_with fail
  refine (at_any _ _ _).mono ?_
  rintro e w4 ⟨rfl, k4⟩
  go_wp2_with fail
  refine (works_any _).mono ?_
  rintro e w5 ⟨rfl, k5⟩
  go_wp2_with fail
  go_ret
  exact ⟨rfl, ((((k1.kin k2).kin k3).kin k4).kin k5).grown⟩
end Go.Proofs.Ytfnajddkaapejaa
