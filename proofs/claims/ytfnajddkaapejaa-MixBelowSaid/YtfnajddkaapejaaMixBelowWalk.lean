/-
  The walk of MixBelow.
-/
import Derived.Test.YtfnajddkaapejaaGen
namespace Go.Proofs.Ytfnajddkaapejaa
open Go.RowKit
/-- What is below n, of a number of 64 bits: it stands between 0 and n, and its 64 bits are those of the remainder. -/
theorem mod_bounds (x n : Int) (hx : 0 ≤ x) (h1 : 1 ≤ n) (h2 : n ≤ 9223372036854775807) : 0 ≤ modI x n ∧ modI x n < n ∧ modI x n = x.tmod n := by
  have e : x.tmod n = x % n := Int.tmod_eq_emod_of_nonneg hx
  have h3 := Int.emod_nonneg x (show n ≠ 0 by omega)
  have h4 := Int.emod_lt_of_pos x (show 0 < n by omega)
  have e2 : modI x n = x.tmod n := by
    unfold modI
    rw [e]
    unfold wrap64
    omega
  rw [e2, e]
  exact ⟨h3, h4, rfl⟩
set_option maxHeartbeats 1000000 in
theorem MixBelow_walk (a0 a1 a2 : Int) (w0 : (Lit.int .u64 a0).wf = true) (w1 : (Lit.int .i64 a1).wf = true) (w2 : (Lit.int .u8 a2).wf = true) (w : World) :
    Calls Try.prog 8 #[.int .u64 a0, .int .i64 a1, .int .u8 a2] w fun e w' => e = .returned (.bool true) ∧ Grown w w' := by
  obtain ⟨s, rfl⟩ := U_of w0
  obtain ⟨m, rfl, hm⟩ := byte_of w2
  have hn2 : a1 ≤ 9223372036854775807 := (bounds_i64 w1).2
  clear w0 w1 w2
  go_enter Try.func8, Try.ntmps8
  go_wp2_with fail
  refine (genNew _ _).mono ?_
  rintro e w1 ⟨b, rfl, g0, hb, k0⟩
  go_wp2_with fail
  go_loopw [14] (fun i wr => ∃ k : Nat, k ≤ m ∧ i = .int .u8 k ∧ Gen wr b s k ∧ Kin w wr) (fun i _ => m - (intOf i).toNat)
  case atStart => exact ⟨0, Nat.zero_le _, rfl, g0, k0⟩
  case round =>
    obtain ⟨k, hk, rfl, g, kk⟩ := hrel
    clear g0 k0
    by_cases hlt : k < m
    · go_wp2_with fail
      refine (genNext b s k (by omega) _ g).mono ?_
      rintro e w2 ⟨rfl, g1, k1⟩
      go_wp2_with fail
      go_roundw
      case rel => exact ⟨k + 1, by omega, by go_num, g1, kk.one k1 hb⟩
      case measure => simp [intOf]; omega
    · have : k = m := by omega
      subst this
      go_wp2_with fail
      refine (genCopy b s k _ g).mono ?_
      rintro e w2 ⟨c, rfl, h0, hc, k1⟩
      have g1 := g.keep k1 (fun f => f)
      have hbc : b ≠ c := by have := g.lt; omega
      have K1 := kk.kin k1
      have hcw : w.heap.size ≤ c := Nat.le_trans kk.size hc
      clear g kk k1
      by_cases hn : a1 < 1
      · go_wp2_with fail
        refine (genLow b s k a1 _ g1 hn).mono ?_
        rintro e w3 ⟨rfl, rfl⟩
        go_wp2_with fail
        refine (genPos b s k _ g1).mono ?_
        rintro e w3 ⟨rfl, rfl⟩
        go_wp2_with fail
        refine (genNext b s k (by omega) _ g1).mono ?_
        rintro e w3 ⟨rfl, _, k2⟩
        go_wp2_with fail
        refine (genNext c s k (by omega) _ (h0.keep k2 (fun e => hbc e.symm))).mono ?_
        rintro e w4 ⟨rfl, _, k3⟩
        go_wp2_with fail
        refine (works_any _).mono ?_
        rintro e w5 ⟨rfl, k4⟩
        go_wp2_with fail
        go_ret
        exact ⟨rfl, (((K1.one k2 hb).one k3 hcw).kin k4).grown⟩
      · have hn1 : 1 ≤ a1 := by omega
        have hx : 0 ≤ atI (U s) (k : Int) := by rw [num_U k (by omega), atI_U]; exact U_nonneg _
        obtain ⟨b1, b2, b3⟩ := mod_bounds (atI (U s) (k : Int)) a1 hx hn1 hn2
        have e1 : (modI (atI (U s) (k : Int)) a1 == (atI (U s) (k : Int)).tmod a1) = true := by rw [← b3]; exact beq_self_eq_true _
        clear hx b3 hn
        go_wp2_with fail
        refine (genBelow b s k (by omega) a1 _ g1 hn1 hn2).mono ?_
        rintro e w3 ⟨rfl, g2, k2⟩
        have h2 := h0.keep k2 (fun e => hbc e.symm)
        clear h0 g1
        go_wp2_with fail
        refine (genNext c s k (by omega) _ h2).mono ?_
        rintro e w4 ⟨rfl, h3, k3⟩
        have g3 := g2.keep k3 hbc
        clear h2 g2
        go_wp2_with fail
        refine (genPos b s (k + 1) _ g3).mono ?_
        rintro e w5 ⟨rfl, rfl⟩
        go_wp2_with fail
        refine (genNext b s (k + 1) (by omega) _ g3).mono ?_
        rintro e w5 ⟨rfl, _, k4⟩
        go_wp2_with fail
        refine (genNext c s (k + 1) (by omega) _ (h3.keep k4 (fun e => hbc e.symm))).mono ?_
        rintro e w6 ⟨rfl, _, k5⟩
        go_wp2_with fail
        refine (works_any _).mono ?_
        rintro e w7 ⟨rfl, k6⟩
        go_wp2_with fail
        go_ret
        exact ⟨rfl, (((((K1.one k2 hb).one k3 hcw).one k4 hb).one k5 hcw).kin k6).grown⟩
end Go.Proofs.Ytfnajddkaapejaa
