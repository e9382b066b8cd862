/-
  The walk of KeysSeeds.
-/
import Derived.Test.YtfnajddkaapejaaDoorKWorks
import Derived.Test.YtfnajddkaapejaaDoorGenD
namespace Go.Proofs.YtfnajddkaapejaaDoor
open Go.RowKit
theorem index_of {n : Int} (h : (Lit.int .u16 n).wf = true) : ∃ m p : Nat, n = (m : Int) ∧ m ≤ 65535 ∧ (m : Int) % 781 = (p : Int) ∧ p < 781 := by
  have := bounds_u16 h
  refine ⟨n.toNat, n.toNat % 781, by omega, by omega, (Int.natCast_emod _ 781).symm, Nat.mod_lt _ (by decide)⟩
theorem std_U : std = U 499917877359#64 := rfl
theorem same_std (s : BitVec 64) : allEq (keysOf (U s)) (keysOf std) 781 = (U s == 499917877359) := by
  by_cases h : U s = 499917877359
  · rw [h]
    exact allEq_true fun _ _ => rfl
  · rw [beq_eq_false_iff_ne.2 h]
    refine allEq_false 0 (by decide) ?_
    rw [keysOf_at _ _ (by decide), keysOf_at _ _ (by decide), std_U]
    intro e
    have e2 : U (atB s 0#64) = U (atB 499917877359#64 0#64) := by
      rw [← atI_U, ← atI_U]
      exact e
    exact h (by rw [atB_seed (U_inj.1 e2)]; rfl)
set_option maxRecDepth 100000 in
set_option maxHeartbeats 4000000 in
theorem KeysSeeds_walk (a0 a1 a2 : Int) (w0 : (Lit.int .u64 a0).wf = true) (_w1 : (Lit.int .u64 a1).wf = true) (w2 : (Lit.int .u16 a2).wf = true) (w : World) (hR : Rights w) :
    Calls Tryd.prog 4 #[.int .u64 a0, .int .u64 a1, .int .u16 a2] w fun e w' => e = .returned (.bool true) ∧ Grown w w' := by
  obtain ⟨s, rfl⟩ := U_of w0
  obtain ⟨m, i, rfl, hm, ei, hi⟩ := index_of w2
  clear w0 _w1 w2
  have R := Lib.hid hR
  clear hR
  have e1 : keysOf (U s) i = atI (U s) (i : Int) := keysOf_at _ _ hi
  have e2 : keysOf std i = atI 499917877359 (i : Int) := keysOf_at _ _ hi
  have e3 : zeros i = 0 := rfl
  have e4 : allEq (keysOf std) (keysOf std) 781 = true := allEq_true fun _ _ => rfl
  have e5 : allEq (keysOf (U s)) (keysOf (U s)) 781 = true := allEq_true fun _ _ => rfl
  have e6 := same_std s
  have hi2 : (i : Int) < 781 := by omega
  go_enter Tryd.func4, Tryd.ntmps4
  go_wp2_with fail
  refine (ofSeed _ _).mono ?_
  rintro e w1 ⟨t, rfl, ht, k1⟩
  go_wp2_with fail
  refine (ofStd _ _).mono ?_
  rintro e w2 ⟨a, rfl, ha, k2⟩
  have ht2 := ht.keep k2 (fun f => f)
  have K2 := k1.kin k2
  clear ht k1 k2
  go_wp2_with fail
  refine (ofStd _ _).mono ?_
  rintro e w3 ⟨b, rfl, hb, k3⟩
  have ht3 := ht2.keep k3 (fun f => f)
  have ha3 := ha.keep k3 (fun f => f)
  have K3 := K2.kin k3
  clear ht2 ha K2 k3
  go_wp2_with fail
  refine (ofZero _ _).mono ?_
  rintro e w4 ⟨c, rfl, hc, k4⟩
  have ht4 := ht3.keep k4 (fun f => f)
  have ha4 := ha3.keep k4 (fun f => f)
  have hb4 := hb.keep k4 (fun f => f)
  have K4 := K3.kin k4
  clear ht3 ha3 hb K3 k4
  go_wp2_with fail
  refine (key_at ht4 i hi).mono ?_
  rintro e w5 ⟨rfl, rfl⟩
  go_wp2_with fail
  refine (key_at ha4 i hi).mono ?_
  rintro e w5 ⟨rfl, rfl⟩
  go_wp2_with fail
  refine (key_at hc i hi).mono ?_
  rintro e w5 ⟨rfl, rfl⟩
  clear hc
  go_wp2_with fail
  refine (at_any _ _ _).mono ?_
  rintro e w5 ⟨rfl, k5⟩
  have ht5 := ht4.keep k5 (fun f => f)
  have ha5 := ha4.keep k5 (fun f => f)
  have hb5 := hb4.keep k5 (fun f => f)
  have K5 := K4.kin k5
  clear ht4 ha4 hb4 K4 k5
  go_wp2_with fail
  refine (at_any _ _ _).mono ?_
  rintro e w6 ⟨rfl, k6⟩
  have ht6 := ht5.keep k6 (fun f => f)
  have ha6 := ha5.keep k6 (fun f => f)
  have hb6 := hb5.keep k6 (fun f => f)
  have K6 := K5.kin k6
  clear ht5 ha5 hb5 K5 k6
  go_wp2_with fail
  refine (same_tabs ha6 hb6).mono ?_
  rintro e w7 ⟨rfl, k7⟩
  have ht7 := ht6.keep k7 (fun f => f)
  have ha7 := ha6.keep k7 (fun f => f)
  have K7 := K6.kin k7
  clear ht6 ha6 hb6 K6 k7 e1 e2 e3 e4
  go_wp2_with fail
  refine (genNew _ _).mono ?_
  rintro e w8 ⟨g, rfl, hg, hgb, k8⟩
  have ht8 := ht7.keep k8 (fun f => f)
  have ha8 := ha7.keep k8 (fun f => f)
  have hgt : t ≠ g := by have := ht7.lt; omega
  have hga : a ≠ g := by have := ha7.lt; omega
  have hgw : w.heap.size ≤ g := Nat.le_trans K7.size hgb
  have K8 := K7.kin k8
  clear ht7 ha7 K7 k8 hgb
  go_wp2_with fail
  go_loopw [23] (fun i wr => ∃ k : Nat, k ≤ 781 ∧ i = .int .i64 k ∧ Gen wr g s k ∧ Tab wr t true (keysOf (U s)) ∧ Tab wr a true (keysOf std) ∧ Kin w wr) (fun i _ => 781 - (intOf i).toNat)
  case atStart => exact ⟨0, Nat.zero_le _, rfl, hg, ht8, ha8, K8⟩
  case round =>
    clear hg ht8 ha8 K8
    obtain ⟨k, hk, rfl, hg, ht, ha, K⟩ := hrel
    by_cases hlt : k < 781
    · have f1 : keysOf (U s) k = atI (U s) (k : Int) := keysOf_at _ _ hlt
      have hlt2 : (k : Int) < 781 := by omega
      go_wp2_with fail
      refine (key_at ht k hlt).mono ?_
      rintro e w9 ⟨rfl, rfl⟩
      go_wp2_with fail
      refine (genNext g s k (by omega) _ hg).mono ?_
      rintro e w9 ⟨rfl, hg2, k9⟩
      have ht2 := ht.keep k9 hgt
      have ha2 := ha.keep k9 hga
      have K2 := K.one k9 hgw
      clear hg ht ha K k9
      go_wp2_with fail
      go_roundw
      case rel => exact ⟨k + 1, by omega, by go_num, hg2, ht2, ha2, K2⟩
      case measure => simp [intOf]; omega
    · have : k = 781 := by omega
      subst this
      clear hg
      go_wp2_with fail
      refine (ofSeed _ _).mono ?_
      rintro e w9 ⟨u, rfl, hu, k9⟩
      have ht2 := ht.keep k9 (fun f => f)
      have ha2 := ha.keep k9 (fun f => f)
      have K2 := K.kin k9
      clear ht ha K k9
      go_wp2_with fail
      refine (same_tabs ht2 hu).mono ?_
      rintro e w10 ⟨rfl, k10⟩
      have ht3 := ht2.keep k10 (fun f => f)
      have ha3 := ha2.keep k10 (fun f => f)
      have K3 := K2.kin k10
      clear ht2 ha2 hu K2 k10
      go_wp2_with fail
      refine (same_tabs ht3 ha3).mono ?_
      rintro e w11 ⟨rfl, k11⟩
      have K4 := K3.kin k11
      clear ht3 ha3 K3 k11
      go_wp2_with fail
      refine (works_any _ (R.out.keep K4)).mono ?_
      rintro e w12 ⟨rfl, k12⟩
      go_wp2_with fail
      go_ret
      exact ⟨rfl, (K4.kin k12).grown⟩
end Go.Proofs.YtfnajddkaapejaaDoor
