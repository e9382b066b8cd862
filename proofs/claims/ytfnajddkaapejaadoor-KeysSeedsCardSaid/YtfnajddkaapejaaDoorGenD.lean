/-
  A generator of package mix by its seed and how many numbers it has drawn: New and Next, said in these words.
-/
import Derived.Test.YtfnajddkaapejaaDoorMixA
namespace Go.Proofs.YtfnajddkaapejaaDoor
open Go.RowKit
/-- The generator with a seed behind n draws. -/
def Gen (w : World) (b : Nat) (s : BitVec 64) (n : Nat) : Prop := Mix w b true (U (stB s n)) (n : Int)
theorem Gen.lt {w : World} {b : Nat} {s : BitVec 64} {n : Nat} (h : Gen w b s n) : b < w.heap.size := Blk.lt h
theorem Gen.keep {S : Nat → Prop} {w w' : World} {b : Nat} {s : BitVec 64} {n : Nat} (h : Gen w b s n) (k : Ch S w w') (hb : ¬ S b) : Gen w' b s n := Blk.keep h k hb
theorem num_U (n : Nat) (hn : n ≤ 1000000) : (n : Int) = U (BitVec.ofNat 64 n) := (U_small (by omega)).symm
theorem inc_num (n : Nat) (hn : n ≤ 1000000) : inc (n : Int) = ((n + 1 : Nat) : Int) := by
  unfold inc
  rw [IntKind.wrap_u64]
  omega
theorem draw_num (s : BitVec 64) (n : Nat) (hn : n ≤ 1000000) : mixI (addG (U (stB s n))) = atI (U s) (n : Int) := by
  rw [num_U n hn, addG_U, mixI_U, stB_succ, stB_at, atI_U]
theorem genNew (s : BitVec 64) (w : World) :
    Calls Tryd.prog 18 #[.int .u64 (U s)] w fun e w' => ∃ b, e = .returned (.pointer (some ⟨b, 0, none⟩)) ∧ Gen w' b s 0 ∧ w.heap.size ≤ b ∧ Kin w w' :=
  (new_kin (U s) w).mono fun _ _ ⟨b, he, hm, hb, hk⟩ => ⟨b, he, by unfold Gen; rw [stB_zero]; exact hm, hb, hk⟩
theorem genNext (b : Nat) (s : BitVec 64) (n : Nat) (hn : n ≤ 1000000) (w : World) (h : Gen w b s n) :
    Calls Tryd.prog 19 #[.pointer (some ⟨b, 0, none⟩)] w fun e w' => e = .returned (.int .u64 (atI (U s) (n : Int))) ∧ Gen w' b s (n + 1) ∧ One b w w' :=
  (next_at b _ _ w h).mono fun _ _ ⟨he, hm, hk⟩ => ⟨by rw [he, draw_num s n hn], by unfold Gen; rw [addG_U, stB_succ, inc_num n hn] at hm; exact hm, hk⟩
end Go.Proofs.YtfnajddkaapejaaDoor
