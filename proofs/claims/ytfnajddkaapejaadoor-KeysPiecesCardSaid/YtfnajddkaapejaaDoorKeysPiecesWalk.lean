/-
  The walk of KeysPieces.
-/
import Derived.Test.YtfnajddkaapejaaDoorKWorks
namespace Go.Proofs.YtfnajddkaapejaaDoor
open Go.RowKit
theorem piece_bounds (p q : Int) (h1 : 1 ≤ p) (h2 : p ≤ 12) (h3 : 0 ≤ q) (h4 : q < 64) : 0 ≤ pieceI p q ∧ pieceI p q ≤ 767 := by
  unfold pieceI
  omega
theorem piece_row (p q r : Int) : pieceI p r - pieceI p q = r - q := by
  unfold pieceI
  omega
theorem piece_color (p q : Int) : pieceI p q - pieceI (p + 6) q = 64 := by
  unfold pieceI
  omega
theorem piece_mod (p q : Int) (h3 : 0 ≤ q) (h4 : q < 64) : pieceI p q % 64 = q := by
  unfold pieceI
  omega
theorem piece_div (p q : Int) (h1 : 1 ≤ p) (h2 : p ≤ 6) (h3 : 0 ≤ q) (h4 : q < 64) : pieceI p q / 64 = 2 * p - 1 := by
  unfold pieceI
  omega
theorem rest_of {n : Int} (k : Nat) (hk : 0 < k) (h : (Lit.int .u8 n).wf = true) : ∃ m q : Nat, n = (m : Int) ∧ m ≤ 255 ∧ (m : Int) % (k : Int) = (q : Int) ∧ q < k := by
  have := bounds_u8 h
  refine ⟨n.toNat, n.toNat % k, by omega, by omega, (Int.natCast_emod _ _).symm, Nat.mod_lt _ hk⟩
set_option maxHeartbeats 2000000 in
theorem KeysPieces_walk (a0 a1 a2 : Int) (w0 : (Lit.int .u8 a0).wf = true) (w1 : (Lit.int .u8 a1).wf = true) (w2 : (Lit.int .u8 a2).wf = true) (w : World) (hR : Rights w) :
    Calls Tryd.prog 9 #[.int .u8 a0, .int .u8 a1, .int .u8 a2] w fun e w' => e = .returned (.bool true) ∧ Grown w w' := by
  obtain ⟨m, p, rfl, hm, ep, hp⟩ := rest_of 6 (by decide) w0
  obtain ⟨n, a, rfl, hn, ea, ha⟩ := rest_of 64 (by decide) w1
  obtain ⟨k, b, rfl, hk, eb, hb⟩ := rest_of 64 (by decide) w2
  have ep' : (m : Int) % 6 = (p : Int) := ep
  have ea' : (n : Int) % 64 = (a : Int) := ea
  have eb' : (k : Int) % 64 = (b : Int) := eb
  clear w0 w1 w2 ep ea eb
  have b1 := (piece_bounds (1 + (p : Int)) (a : Int) (by omega) (by omega) (by omega) (by omega)).1
  have b2 := (piece_bounds (1 + (p : Int)) (a : Int) (by omega) (by omega) (by omega) (by omega)).2
  have b3 := (piece_bounds (1 + (p : Int)) (b : Int) (by omega) (by omega) (by omega) (by omega)).1
  have b4 := (piece_bounds (1 + (p : Int)) (b : Int) (by omega) (by omega) (by omega) (by omega)).2
  have b5 := (piece_bounds (1 + (p : Int) + 6) (a : Int) (by omega) (by omega) (by omega) (by omega)).1
  have b6 := (piece_bounds (1 + (p : Int) + 6) (a : Int) (by omega) (by omega) (by omega) (by omega)).2
  have e1 : (pieceI (1 + (p : Int)) (b : Int) - pieceI (1 + (p : Int)) (a : Int) == (b : Int) - (a : Int)) = true := beq_iff_eq.2 (piece_row _ _ _)
  have e2 : (pieceI (1 + (p : Int)) (a : Int) - pieceI (1 + (p : Int) + 6) (a : Int) == 64) = true := beq_iff_eq.2 (piece_color _ _)
  have e3 : (pieceI (1 + (p : Int)) (a : Int) % 64 == (a : Int)) = true := beq_iff_eq.2 (piece_mod _ _ (by omega) (by omega))
  have e4 : (pieceI (1 + (p : Int)) (a : Int) / 64 == 2 * (1 + (p : Int)) - 1) = true := beq_iff_eq.2 (piece_div _ _ (by omega) (by omega) (by omega) (by omega))
  have R := Lib.hid hR
  clear hR
  go_enter Tryd.func9, Tryd.ntmps9
  go_wp2_with fail
  refine (piece_at _ _ _ (by omega) (by omega) (by omega) (by omega)).mono ?_
  rintro e w1 ⟨rfl, rfl⟩
  go_wp2_with fail
  refine (piece_at _ _ _ (by omega) (by omega) (by omega) (by omega)).mono ?_
  rintro e w1 ⟨rfl, rfl⟩
  go_wp2_with fail
  refine (piece_at _ _ _ (by omega) (by omega) (by omega) (by omega)).mono ?_
  rintro e w1 ⟨rfl, rfl⟩
  go_wp2_with fail
  refine (works_any _ R.out).mono ?_
  rintro e w5 ⟨rfl, k5⟩
  go_wp2_with fail
  go_ret
  exact ⟨rfl, k5.grown⟩
end Go.Proofs.YtfnajddkaapejaaDoor
