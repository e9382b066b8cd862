/-
  Tables by the kind that Of was asked for; the walk of the statements' own 'works'.
-/
import Derived.Test.YtfnajddkaapejaaDoorKeysOf
import Derived.Test.YtfnajddkaapejaaDoorKeysSame
namespace Go.Proofs.YtfnajddkaapejaaDoor
open Go.RowKit

/-- The keys of a seed. -/
def keysOf (s : Int) : Nat → Int := part s 781
theorem keysOf_at (s : Int) (i : Nat) (h : i < 781) : keysOf s i = atI s (i : Int) := by
  unfold keysOf part
  rw [if_pos h]
def zeros : Nat → Int := fun _ => 0

theorem ofZero (s : Int) (w : World) :
    Calls Tryd.prog 10 #[.int .i64 1, .int .u64 s] w fun e w' => ∃ b, e = .returned (.tuple #[.pointer (some ⟨b, 0, none⟩), .int .i64 0]) ∧ Tab w' b true zeros ∧ Kin w w' :=
  (of_zero s w).mono fun _ _ ⟨he, hw⟩ => ⟨_, he, by rw [hw]; exact Blk.new _ _ _, by rw [hw]; exact (Ch.refl _ _).alloc _ _⟩
theorem ofSeed (s : Int) (w : World) :
    Calls Tryd.prog 10 #[.int .i64 2, .int .u64 s] w fun e w' => ∃ b, e = .returned (.tuple #[.pointer (some ⟨b, 0, none⟩), .int .i64 0]) ∧ Tab w' b true (keysOf s) ∧ Kin w w' :=
  (of_seeded s w).mono fun _ _ ⟨he, ht, hk⟩ => ⟨_, he, ht, hk⟩
theorem ofStd (s : Int) (w : World) :
    Calls Tryd.prog 10 #[.int .i64 0, .int .u64 s] w fun e w' => ∃ b, e = .returned (.tuple #[.pointer (some ⟨b, 0, none⟩), .int .i64 0]) ∧ Tab w' b true (keysOf std) ∧ Kin w w' :=
  (of_standard s w).mono fun _ _ ⟨he, ht, hk⟩ => ⟨_, he, ht, hk⟩

theorem x1 : (pieceI 7 0 == 0) = true := by decide
theorem x2 : (pieceI 6 63 == 767) = true := by decide
theorem x3 : (castleE 8 == 0) = true := by decide
theorem x4 : (castleV 8 == 771) = true := by decide
theorem x5 : (castleE 3 == 3) = true := by decide
theorem x6 : allEq (keysOf std) (keysOf 499917877359) 781 = true := allEq_true fun _ _ => rfl
theorem std_zero : atI std 0 ≠ 0 := by decide +kernel
theorem x7 : allEq (keysOf std) zeros 781 = false :=
  allEq_false 0 (by decide) (by rw [keysOf_at _ _ (by decide)]; exact std_zero)
theorem x8 : (zeros 5 == 0) = true := rfl

set_option maxRecDepth 100000 in
set_option maxHeartbeats 2000000 in
theorem works_any (w : World) (hR : Rights w) :
    Calls Tryd.prog 15 #[] w fun e w' => e = .returned (.bool true) ∧ Kin w w' := by
  have e1 := x1
  have e2 := x2
  have e3 := x3
  have e4 := x4
  have e5 := x5
  have e6 := x6
  have e7 := x7
  have e8 := x8
  have R := Lib.hid hR
  clear hR
  go_enter Tryd.func15, Tryd.ntmps15
  go_wp2_with fail
  refine (piece_at _ _ _ (by decide) (by decide) (by decide) (by decide)).mono ?_
  rintro e w1 ⟨rfl, rfl⟩
  go_wp2_with fail
  refine (piece_at _ _ _ (by decide) (by decide) (by decide) (by decide)).mono ?_
  rintro e w1 ⟨rfl, rfl⟩
  go_wp2_with fail
  refine (piece_out _ _ _ (by decide)).mono ?_
  rintro e w1 ⟨rfl, rfl⟩
  go_wp2_with fail
  refine (castle_any _ _ R.out).mono ?_
  rintro e w1 ⟨rfl, rfl⟩
  go_wp2_with fail
  refine (castle_any _ _ R.out).mono ?_
  rintro e w1 ⟨rfl, rfl⟩
  go_wp2_with fail
  refine (file_at _ _ (by decide) (by decide)).mono ?_
  rintro e w1 ⟨rfl, rfl⟩
  go_wp2_with fail
  refine (ofZero _ _).mono ?_
  rintro e w1 ⟨t, rfl, ht, k1⟩
  go_wp2_with fail
  refine (key_at ht 5 (by decide)).mono ?_
  rintro e w2 ⟨rfl, rfl⟩
  go_wp2_with fail
  refine (key_out ht _ (by decide)).mono ?_
  rintro e w2 ⟨rfl, rfl⟩
  go_wp2_with fail
  refine (ofStd _ _).mono ?_
  rintro e w2 ⟨s, rfl, hs, k2⟩
  have ht2 := ht.keep k2 (fun f => f)
  clear ht
  go_wp2_with fail
  refine (ofSeed _ _).mono ?_
  rintro e w3 ⟨u, rfl, hu, k3⟩
  have ht3 := ht2.keep k3 (fun f => f)
  have hs3 := hs.keep k3 (fun f => f)
  clear ht2 hs
  go_wp2_with fail
  refine (of_other _ _ _ (by decide) (by decide) (by decide)).mono ?_
  rintro e w4 ⟨rfl, k4⟩
  have ht4 := ht3.keep k4 (fun f => f)
  have hs4 := hs3.keep k4 (fun f => f)
  have hu4 := hu.keep k4 (fun f => f)
  clear ht3 hs3 hu
  go_wp2_with fail
  refine (turn_any _).mono ?_
  rintro e w5 ⟨rfl, rfl⟩
  go_wp2_with fail
  refine (same_tabs hs4 hu4).mono ?_
  rintro e w5 ⟨rfl, k5⟩
  have ht5 := ht4.keep k5 (fun f => f)
  have hs5 := hs4.keep k5 (fun f => f)
  clear ht4 hs4 hu4
  go_wp2_with fail
  refine (same_tabs hs5 ht5).mono ?_
  rintro e w6 ⟨rfl, k6⟩
  go_wp2_with fail
  go_ret
  exact ⟨rfl, ((((k1.kin k2).kin k3).kin k4).kin k5).kin k6⟩
end Go.Proofs.YtfnajddkaapejaaDoor
