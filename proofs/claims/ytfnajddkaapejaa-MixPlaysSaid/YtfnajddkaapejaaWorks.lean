/-
  The walk of the statements' own 'works': the examples of the chapter hold.
-/
import Derived.Test.YtfnajddkaapejaaMixB
namespace Go.Proofs.Ytfnajddkaapejaa
open Go.RowKit

theorem w1 : (mixI (addG 0) == 16294208416658607535) = true := by decide +kernel
theorem w2 : (mixI (addG (addG 0)) == 7960286522194355700) = true := by decide +kernel
theorem w3 : (mixI (addG (addG (addG 0))) == 487617019471545679) = true := by decide +kernel
theorem w4 : (atI 0 0 == mixI (addG 0)) = true := by decide +kernel
theorem w5 : (atI 0 2 == mixI (addG (addG (addG 0)))) = true := by decide +kernel
theorem w6 : (modI (mixI (addG 0)) 10 == 5) = true := by decide +kernel
theorem w7 : (inc 0 == 1) = true := by decide +kernel

set_option maxHeartbeats 1000000 in
theorem works_any (w : World) :
    Calls Try.prog 14 #[] w fun e w' => e = .returned (.bool true) ∧ Kin w w' := by
  have e1 := w1
  have e2 := w2
  have e3 := w3
  have e4 := w4
  have e5 := w5
  have e6 := w6
  have e7 := w7
  go_enter Try.func14, Try.ntmps14
  go_wp2_with fail
  refine (new_kin _ _).mono ?_
  rintro e w1 ⟨b, rfl, m0, hb, k0⟩
  go_wp2_with fail
  refine (next_at b _ _ _ m0).mono ?_
  rintro e w2 ⟨rfl, m1, k1⟩
  go_wp2_with fail
  refine (next_at b _ _ _ m1).mono ?_
  rintro e w3 ⟨rfl, m2, k2⟩
  go_wp2_with fail
  refine (next_at b _ _ _ m2).mono ?_
  rintro e w4 ⟨rfl, m3, k3⟩
  have K4 : Kin w w4 := ((k0.one k1 hb).one k2 hb).one k3 hb
  clear m0 m1 m2 m3 k0 k1 k2 k3
  go_wp2_with fail
  refine (new_kin _ _).mono ?_
  rintro e w5 ⟨c, rfl, n0, hc, k5⟩
  go_wp2_with fail
  refine (below_at c _ _ _ _ n0 (by decide) (by decide)).mono ?_
  rintro e w6 ⟨rfl, n1, k6⟩
  have K6 : Kin w w6 := (K4.kin k5).one k6 (Nat.le_trans K4.size hc)
  clear n0 k5 k6
  go_wp2_with fail
  refine (below_low c _ _ _ _ n1 (by decide)).mono ?_
  rintro e w7 ⟨rfl, rfl⟩
  go_wp2_with fail
  refine (below_low c _ _ _ _ n1 (by decide)).mono ?_
  rintro e w7 ⟨rfl, rfl⟩
  go_wp2_with fail
  refine (at_any _ _ _).mono ?_
  rintro e w7 ⟨rfl, k7⟩
  go_wp2_with fail
  refine (at_any _ _ _).mono ?_
  rintro e w8 ⟨rfl, k8⟩
  go_wp2_with fail
  refine (pos_at c _ _ _ ((n1.keep k7 (fun f => f)).keep k8 (fun f => f))).mono ?_
  rintro e w9 ⟨rfl, rfl⟩
  go_wp2_with fail
  go_ret
  exact ⟨rfl, (K6.kin k7).kin k8⟩
end Go.Proofs.Ytfnajddkaapejaa
