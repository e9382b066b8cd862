/-
  The walk of MixCopies.
-/
import Derived.Test.YtfnajddkaapejaaGen
namespace Go.Proofs.Ytfnajddkaapejaa
open Go.RowKit
set_option maxHeartbeats 1000000 in
theorem MixCopies_walk (a0 a1 a2 : Int) (w0 : (Lit.int .u64 a0).wf = true) (w1 : (Lit.int .u8 a1).wf = true) (w2 : (Lit.int .u8 a2).wf = true) (w : World) :
    Calls Try.prog 9 #[.int .u64 a0, .int .u8 a1, .int .u8 a2] w fun e w' => e = .returned (.bool true) ∧ Grown w w' := by
  obtain ⟨s, rfl⟩ := U_of w0
  obtain ⟨m, rfl, hm⟩ := byte_of w1
  obtain ⟨q, rfl, hq⟩ := byte_of w2
  clear w0 w1 w2
  go_enter Try.func9, Try.ntmps9
  go_wp2_with fail
  refine (genNew _ _).mono ?_
  rintro e w1 ⟨b, rfl, g0, hb, k0⟩
  go_wp2_with fail
  go_loopw [13] (fun i wr => ∃ k : Nat, k ≤ m ∧ i = .int .u8 k ∧ Gen wr b s k ∧ Kin w wr) (fun i _ => m - (intOf i).toNat)
  case atStart => exact ⟨0, Nat.zero_le _, rfl, g0, k0⟩
  case round =>
    obtain ⟨k, hk, rfl, g, kk⟩ := hrel
    clear g0 k0
    by_cases hlt : k < m
    · go_wp2_with fail
      refine (genNext b s k (by omega) _ g).mono ?_
      rintro e w2 ⟨rfl, g1, k1⟩
      go_wp2_with fail
      go_roundw
      case rel => exact ⟨k + 1, by omega, by go_num, g1, kk.one k1 hb⟩
      case measure => simp [intOf]; omega
    · have : k = m := by omega
      subst this
      go_wp2_with fail
      refine (genCopy b s k _ g).mono ?_
      rintro e w2 ⟨c, rfl, h0, hc, k1⟩
      have g1 := g.keep k1 (fun f => f)
      have hbc : b ≠ c := by have := g.lt; omega
      have K1 := kk.kin k1
      have hcw : w.heap.size ≤ c := Nat.le_trans kk.size hc
      clear g kk k1
      go_wp2_with fail
      refine (genPos c s k _ h0).mono ?_
      rintro e w3 ⟨rfl, rfl⟩
      go_wp2_with fail
      go_loopw [31] (fun i wr => ∃ j : Nat, j ≤ q ∧ i = .int .u64 j ∧ Gen wr b s k ∧ Gen wr c s (k + j) ∧ Kin w wr) (fun i _ => q - (intOf i).toNat)
      case atStart => exact ⟨0, Nat.zero_le _, rfl, g1, h0, K1⟩
      case round =>
        obtain ⟨j, hj, rfl, g, h, kk⟩ := hrel
        clear g1 h0 K1
        by_cases hlj : j < q
        · go_wp2_with fail
          refine (genNext c s (k + j) (by omega) _ h).mono ?_
          rintro e w5 ⟨rfl, h1, k1⟩
          go_wp2_with fail
          refine (at_any _ _ _).mono ?_
          rintro e w6 ⟨rfl, k2⟩
          go_wp2_with fail
          go_roundw
          case rel => exact ⟨j + 1, by omega, by go_num, (g.keep k1 hbc).keep k2 (fun f => f), h1.keep k2 (fun f => f), (kk.one k1 hcw).kin k2⟩
          case measure => simp [intOf]; omega
        · have : j = q := by omega
          subst this
          go_wp2_with fail
          refine (genPos b s k _ g).mono ?_
          rintro e w5 ⟨rfl, rfl⟩
          go_wp2_with fail
          refine (genPos c s (k + j) _ h).mono ?_
          rintro e w5 ⟨rfl, rfl⟩
          go_wp2_with fail
          refine (genNext b s k (by omega) _ g).mono ?_
          rintro e w5 ⟨rfl, _, k1⟩
          go_wp2_with fail
          refine (at_any _ _ _).mono ?_
          rintro e w6 ⟨rfl, k2⟩
          go_wp2_with fail
          refine (works_any _).mono ?_
          rintro e w7 ⟨rfl, k3⟩
          go_wp2_with fail
          go_ret
          exact ⟨rfl, (((kk.one k1 hb).kin k2).kin k3).grown⟩
end Go.Proofs.Ytfnajddkaapejaa
