/-
  The walk of KeysIndexes: package keys' indexes and the reference's.
-/
import Derived.Test.YtfnajddkaapejaaDoorKWorks
namespace Go.Proofs.YtfnajddkaapejaaDoor
open Go.RowKit
def pieceV (p q : Int) : Int := if 1 ≤ p ∧ p ≤ 12 ∧ 0 ≤ q ∧ q < 64 then pieceI p q else 0
def pieceE (p q : Int) : Int := if 1 ≤ p ∧ p ≤ 12 ∧ 0 ≤ q ∧ q < 64 then 0 else 3
def fileV (q : Int) : Int := if 0 ≤ q ∧ q < 8 then 772 + q else 0
def fileE (q : Int) : Int := if 0 ≤ q ∧ q < 8 then 0 else 3
theorem piece_any (p q : Int) (w : World) :
    Calls Tryd.prog 12 #[.int .i64 p, .int .i64 q] w fun e w' => e = .returned (.tuple #[.int .i64 (pieceV p q), .int .i64 (pieceE p q)]) ∧ w = w' := by
  unfold pieceV pieceE
  by_cases h : 1 ≤ p ∧ p ≤ 12 ∧ 0 ≤ q ∧ q < 64
  · rw [if_pos h, if_pos h]
    exact piece_at p q w h.1 h.2.1 h.2.2.1 h.2.2.2
  · rw [if_neg h, if_neg h]
    exact piece_out p q w (by omega)
theorem file_any (q : Int) (w : World) :
    Calls Tryd.prog 14 #[.int .i64 q] w fun e w' => e = .returned (.tuple #[.int .i64 (fileV q), .int .i64 (fileE q)]) ∧ w = w' := by
  unfold fileV fileE
  by_cases h : 0 ≤ q ∧ q < 8
  · rw [if_pos h, if_pos h]
    exact file_at q w h.1 h.2
  · rw [if_neg h, if_neg h]
    exact file_out q w (by omega)

set_option maxHeartbeats 400000 in
theorem refPiece_black (p q : Int) (w : World) (h1 : 6 < p) (h2 : p ≤ 12) (h3 : 0 ≤ q) (h4 : q < 64) :
    Calls Tryd.prog 23 #[.int .i64 p, .int .i64 q] w fun e w' => e = .returned (.tuple #[.int .i64 (64 * (2 * (p - 7)) + q), .int .i64 0]) ∧ w = w' := by
  go_enter Tryd.func23, Tryd.ntmps23
  go_wp2
  go_ret2
  exact ⟨rfl, rfl⟩
set_option maxHeartbeats 400000 in
theorem refPiece_white (p q : Int) (w : World) (h1 : 1 ≤ p) (h2 : p ≤ 6) (h3 : 0 ≤ q) (h4 : q < 64) :
    Calls Tryd.prog 23 #[.int .i64 p, .int .i64 q] w fun e w' => e = .returned (.tuple #[.int .i64 (64 * (2 * (p - 1) + 1) + q), .int .i64 0]) ∧ w = w' := by
  go_enter Tryd.func23, Tryd.ntmps23
  go_wp2
  go_ret2
  exact ⟨rfl, rfl⟩
set_option maxHeartbeats 400000 in
theorem refPiece_out (p q : Int) (w : World) (h : p < 1 ∨ 12 < p ∨ q < 0 ∨ 63 < q) :
    Calls Tryd.prog 23 #[.int .i64 p, .int .i64 q] w fun e w' => e = .returned (.tuple #[.int .i64 0, .int .i64 3]) ∧ w = w' := by
  by_cases h1 : p < 1
  · clear h
    go_enter Tryd.func23, Tryd.ntmps23
    go_wp2
    go_ret2
    exact ⟨rfl, rfl⟩
  · by_cases h2 : 12 < p
    · clear h
      go_enter Tryd.func23, Tryd.ntmps23
      go_wp2
      go_ret2
      exact ⟨rfl, rfl⟩
    · by_cases h3 : q < 0
      · clear h
        go_enter Tryd.func23, Tryd.ntmps23
        go_wp2
        go_ret2
        exact ⟨rfl, rfl⟩
      · have h4 : 63 < q := by omega
        clear h
        go_enter Tryd.func23, Tryd.ntmps23
        go_wp2
        go_ret2
        exact ⟨rfl, rfl⟩
theorem refPiece_any (p q : Int) (w : World) :
    Calls Tryd.prog 23 #[.int .i64 p, .int .i64 q] w fun e w' => e = .returned (.tuple #[.int .i64 (pieceV p q), .int .i64 (pieceE p q)]) ∧ w = w' := by
  unfold pieceV pieceE
  by_cases h : 1 ≤ p ∧ p ≤ 12 ∧ 0 ≤ q ∧ q < 64
  · rw [if_pos h, if_pos h]
    by_cases h6 : 6 < p
    · rw [show pieceI p q = 64 * (2 * (p - 7)) + q from by unfold pieceI; omega]
      exact refPiece_black p q w h6 h.2.1 h.2.2.1 h.2.2.2
    · rw [show pieceI p q = 64 * (2 * (p - 1) + 1) + q from by unfold pieceI; omega]
      exact refPiece_white p q w h.1 (by omega) h.2.2.1 h.2.2.2
  · rw [if_neg h, if_neg h]
    exact refPiece_out p q w (by omega)
set_option maxHeartbeats 400000 in
theorem refFile_any (q : Int) (w : World) :
    Calls Tryd.prog 25 #[.int .i64 q] w fun e w' => e = .returned (.tuple #[.int .i64 (fileV q), .int .i64 (fileE q)]) ∧ w = w' := by
  unfold fileV fileE
  by_cases h : 0 ≤ q ∧ q < 8
  · rw [if_pos h, if_pos h]
    obtain ⟨h1, h2⟩ := h
    go_enter Tryd.func25, Tryd.ntmps25
    go_wp2
    go_ret2
    exact ⟨rfl, rfl⟩
  · rw [if_neg h, if_neg h]
    by_cases h1 : q < 0
    · clear h
      go_enter Tryd.func25, Tryd.ntmps25
      go_wp2
      go_ret2
      exact ⟨rfl, rfl⟩
    · have h2 : 7 < q := by omega
      clear h
      go_enter Tryd.func25, Tryd.ntmps25
      go_wp2
      go_ret2
      exact ⟨rfl, rfl⟩
set_option maxHeartbeats 400000 in
theorem refTurn_any (w : World) :
    Calls Tryd.prog 27 #[] w fun e w' => e = .returned (.int .i64 780) ∧ w = w' := by
  go_enter Tryd.func27, Tryd.ntmps27
  go_wp2
  go_ret
  exact ⟨rfl, rfl⟩
set_option maxHeartbeats 1000000 in
theorem refCastle_hit (r v : Int) (w : World) (h : r = 1 ∧ v = 768 ∨ r = 2 ∧ v = 769 ∨ r = 4 ∧ v = 770 ∨ r = 8 ∧ v = 771) :
    Calls Tryd.prog 24 #[.int .i64 r] w fun e w' => e = .returned (.tuple #[.int .i64 v, .int .i64 0]) ∧ Kin w w' := by
  rcases h with ⟨rfl, rfl⟩ | ⟨rfl, rfl⟩ | ⟨rfl, rfl⟩ | ⟨rfl, rfl⟩
  all_goals
    go_enter Tryd.func24, Tryd.ntmps24
    go_wp2_with fail
    refine wp_loop_rounds 5 ?_
    repeat (rw [rounds_succ]; go_wp2_with fail)
    go_ret2
    exact ⟨rfl, (Ch.refl _ _).alloc _ _⟩
set_option maxHeartbeats 1000000 in
theorem refCastle_miss (r : Int) (w : World) (h1 : ((1 : Int) == r) = false) (h2 : ((2 : Int) == r) = false) (h4 : ((4 : Int) == r) = false) (h8 : ((8 : Int) == r) = false) :
    Calls Tryd.prog 24 #[.int .i64 r] w fun e w' => e = .returned (.tuple #[.int .i64 0, .int .i64 3]) ∧ Kin w w' := by
  go_enter Tryd.func24, Tryd.ntmps24
  go_wp2_with fail
  refine wp_loop_rounds 5 ?_
  repeat (rw [rounds_succ]; go_wp2_with fail)
  go_ret2
  exact ⟨rfl, (Ch.refl _ _).alloc _ _⟩
theorem refCastle_any (r : Int) (w : World) :
    Calls Tryd.prog 24 #[.int .i64 r] w fun e w' => e = .returned (.tuple #[.int .i64 (castleV r), .int .i64 (castleE r)]) ∧ Kin w w' := by
  by_cases h : r = 1 ∨ r = 2 ∨ r = 4 ∨ r = 8
  · rw [show castleE r = 0 from by unfold castleE; rw [if_pos h]]
    refine refCastle_hit r (castleV r) w ?_
    rcases h with rfl | rfl | rfl | rfl
    · exact .inl ⟨rfl, rfl⟩
    · exact .inr (.inl ⟨rfl, rfl⟩)
    · exact .inr (.inr (.inl ⟨rfl, rfl⟩))
    · exact .inr (.inr (.inr ⟨rfl, rfl⟩))
  · rw [show castleE r = 3 from by unfold castleE; rw [if_neg h], show castleV r = 0 from by unfold castleV; repeat rw [if_neg (by omega)]]
    exact refCastle_miss r w (beq_eq_false_iff_ne.2 (by omega)) (beq_eq_false_iff_ne.2 (by omega)) (beq_eq_false_iff_ne.2 (by omega)) (beq_eq_false_iff_ne.2 (by omega))

set_option maxHeartbeats 2000000 in
theorem KeysIndexes_walk (a0 a1 a2 a3 : Int) (_w0 : (Lit.int .i64 a0).wf = true) (_w1 : (Lit.int .i64 a1).wf = true) (_w2 : (Lit.int .i64 a2).wf = true) (_w3 : (Lit.int .i64 a3).wf = true) (w : World) (hR : Rights w) :
    Calls Tryd.prog 6 #[.int .i64 a0, .int .i64 a1, .int .i64 a2, .int .i64 a3] w fun e w' => e = .returned (.bool true) ∧ Grown w w' := by
  clear _w0 _w1 _w2 _w3
  have R := Lib.hid hR
  clear hR
  go_enter Tryd.func6, Tryd.ntmps6
  go_wp2_with fail
  refine (piece_any _ _ _).mono ?_
  rintro e w1 ⟨rfl, rfl⟩
  go_wp2_with fail
  refine (refPiece_any _ _ _).mono ?_
  rintro e w1 ⟨rfl, rfl⟩
  go_wp2_with fail
  refine (castle_any _ _ R.out).mono ?_
  rintro e w1 ⟨rfl, rfl⟩
  go_wp2_with fail
  refine (refCastle_any _ _).mono ?_
  rintro e w1 ⟨rfl, k1⟩
  go_wp2_with fail
  refine (file_any _ _).mono ?_
  rintro e w2 ⟨rfl, rfl⟩
  go_wp2_with fail
  refine (refFile_any _ _).mono ?_
  rintro e w2 ⟨rfl, rfl⟩
  go_wp2_with fail
  refine (turn_any _).mono ?_
  rintro e w2 ⟨rfl, rfl⟩
  go_wp2_with fail
  refine (refTurn_any _).mono ?_
  rintro e w2 ⟨rfl, rfl⟩
  go_wp2_with fail
  refine (works_any _ (R.out.keep k1)).mono ?_
  rintro e w5 ⟨rfl, k5⟩
  go_wp2_with fail
  go_ret
  exact ⟨rfl, (k1.kin k5).grown⟩
end Go.Proofs.YtfnajddkaapejaaDoor
