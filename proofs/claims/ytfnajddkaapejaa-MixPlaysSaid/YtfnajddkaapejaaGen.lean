/-
  A generator by its seed and how many numbers it has drawn: package mix's ('Gen') and the reference's ('RGen'); each call, said in these words.
-/
import Derived.Test.YtfnajddkaapejaaWorks
namespace Go.Proofs.Ytfnajddkaapejaa
open Go.RowKit

/-- The generator with a seed behind n draws. -/
def Gen (w : World) (b : Nat) (s : BitVec 64) (n : Nat) : Prop := Mix w b true (U (stB s n)) (n : Int)
/-- The reference's. -/
def RGen (w : World) (b : Nat) (s : BitVec 64) (n : Nat) : Prop := Ref w b true (U s) (n : Int)

theorem Gen.lt {w : World} {b : Nat} {s : BitVec 64} {n : Nat} (h : Gen w b s n) : b < w.heap.size := Blk.lt h
theorem RGen.lt {w : World} {b : Nat} {s : BitVec 64} {n : Nat} (h : RGen w b s n) : b < w.heap.size := Blk.lt h
theorem Gen.keep {S : Nat → Prop} {w w' : World} {b : Nat} {s : BitVec 64} {n : Nat} (h : Gen w b s n) (k : Ch S w w') (hb : ¬ S b) : Gen w' b s n := Blk.keep h k hb
theorem RGen.keep {S : Nat → Prop} {w w' : World} {b : Nat} {s : BitVec 64} {n : Nat} (h : RGen w b s n) (k : Ch S w w') (hb : ¬ S b) : RGen w' b s n := Blk.keep h k hb

theorem num_U (n : Nat) (hn : n ≤ 1000000) : (n : Int) = U (BitVec.ofNat 64 n) := (U_small (by omega)).symm
theorem inc_num (n : Nat) (hn : n ≤ 1000000) : inc (n : Int) = ((n + 1 : Nat) : Int) := by
  unfold inc
  rw [IntKind.wrap_u64]
  omega
theorem dec_inc (n : Nat) (hn : n ≤ 1000000) : dec (inc (n : Int)) = (n : Int) := by
  rw [inc_num n hn]
  unfold dec
  rw [IntKind.wrap_u64]
  omega
theorem draw_num (s : BitVec 64) (n : Nat) (hn : n ≤ 1000000) : mixI (addG (U (stB s n))) = atI (U s) (n : Int) := by
  rw [num_U n hn, addG_U, mixI_U, stB_succ, stB_at, atI_U]
theorem ref_num (s : BitVec 64) (n : Nat) (hn : n ≤ 1000000) : atR (U s) (dec (inc (n : Int))) = atI (U s) (n : Int) := by
  rw [dec_inc n hn, num_U n hn, atR_U, atI_U]

theorem genNew (s : BitVec 64) (w : World) :
    Calls Try.prog 10 #[.int .u64 (U s)] w fun e w' => ∃ b, e = .returned (.pointer (some ⟨b, 0, none⟩)) ∧ Gen w' b s 0 ∧ w.heap.size ≤ b ∧ Kin w w' :=
  (new_kin (U s) w).mono fun _ _ ⟨b, he, hm, hb, hk⟩ => ⟨b, he, by unfold Gen; rw [stB_zero]; exact hm, hb, hk⟩
theorem genPos (b : Nat) (s : BitVec 64) (n : Nat) (w : World) (h : Gen w b s n) :
    Calls Try.prog 11 #[.pointer (some ⟨b, 0, none⟩)] w fun e w' => e = .returned (.int .u64 (n : Int)) ∧ w = w' := pos_at b _ _ w h
theorem genNext (b : Nat) (s : BitVec 64) (n : Nat) (hn : n ≤ 1000000) (w : World) (h : Gen w b s n) :
    Calls Try.prog 12 #[.pointer (some ⟨b, 0, none⟩)] w fun e w' => e = .returned (.int .u64 (atI (U s) (n : Int))) ∧ Gen w' b s (n + 1) ∧ One b w w' :=
  (next_at b _ _ w h).mono fun _ _ ⟨he, hm, hk⟩ => ⟨by rw [he, draw_num s n hn], by unfold Gen; rw [addG_U, stB_succ, inc_num n hn] at hm; exact hm, hk⟩
theorem genCopy (b : Nat) (s : BitVec 64) (n : Nat) (w : World) (h : Gen w b s n) :
    Calls Try.prog 19 #[.pointer (some ⟨b, 0, none⟩)] w fun e w' => ∃ c, e = .returned (.pointer (some ⟨c, 0, none⟩)) ∧ Gen w' c s n ∧ w.heap.size ≤ c ∧ Kin w w' := copy_kin b _ _ w h
theorem genLow (b : Nat) (s : BitVec 64) (n : Nat) (m : Int) (w : World) (h : Gen w b s n) (hm : m < 1) :
    Calls Try.prog 17 #[.pointer (some ⟨b, 0, none⟩), .int .i64 m] w fun e w' => e = .returned (.tuple #[.int .i64 0, .int .i64 2]) ∧ w = w' := below_low b _ _ m w h hm
theorem genBelow (b : Nat) (s : BitVec 64) (n : Nat) (hn : n ≤ 1000000) (m : Int) (w : World) (h : Gen w b s n) (hm : 1 ≤ m) (hm2 : m ≤ 9223372036854775807) :
    Calls Try.prog 17 #[.pointer (some ⟨b, 0, none⟩), .int .i64 m] w fun e w' => e = .returned (.tuple #[.int .i64 (modI (atI (U s) (n : Int)) m), .int .i64 0]) ∧ Gen w' b s (n + 1) ∧ One b w w' :=
  (below_at b _ _ m w h hm hm2).mono fun _ _ ⟨he, hm, hk⟩ => ⟨by rw [he, draw_num s n hn], by unfold Gen; rw [addG_U, stB_succ, inc_num n hn] at hm; exact hm, hk⟩

theorem rgenNew (s : BitVec 64) (w : World) :
    Calls Try.prog 15 #[.int .u64 (U s)] w fun e w' => ∃ b, e = .returned (.pointer (some ⟨b, 0, none⟩)) ∧ RGen w' b s 0 ∧ w.heap.size ≤ b ∧ Kin w w' := refNew_kin (U s) w
theorem rgenPos (b : Nat) (s : BitVec 64) (n : Nat) (w : World) (h : RGen w b s n) :
    Calls Try.prog 21 #[.pointer (some ⟨b, 0, none⟩)] w fun e w' => e = .returned (.int .u64 (n : Int)) ∧ w = w' := refPos_at b _ _ w h
theorem rgenNext (b : Nat) (s : BitVec 64) (n : Nat) (hn : n ≤ 1000000) (w : World) (h : RGen w b s n) :
    Calls Try.prog 16 #[.pointer (some ⟨b, 0, none⟩)] w fun e w' => e = .returned (.int .u64 (atI (U s) (n : Int))) ∧ RGen w' b s (n + 1) ∧ One b w w' :=
  (refNext_at b _ _ w h).mono fun _ _ ⟨he, hm, hk⟩ => ⟨by rw [he, ref_num s n hn], by unfold RGen; rw [inc_num n hn] at hm; exact hm, hk⟩
theorem rgenCopy (b : Nat) (s : BitVec 64) (n : Nat) (w : World) (h : RGen w b s n) :
    Calls Try.prog 20 #[.pointer (some ⟨b, 0, none⟩)] w fun e w' => ∃ c, e = .returned (.pointer (some ⟨c, 0, none⟩)) ∧ RGen w' c s n ∧ w.heap.size ≤ c ∧ Kin w w' := refCopy_at b _ _ w h
theorem rgenLow (b : Nat) (s : BitVec 64) (n : Nat) (m : Int) (w : World) (h : RGen w b s n) (hm : m < 1) :
    Calls Try.prog 18 #[.pointer (some ⟨b, 0, none⟩), .int .i64 m] w fun e w' => e = .returned (.tuple #[.int .i64 0, .int .i64 2]) ∧ w = w' := refBelow_low b _ _ m w h hm
theorem rgenBelow (b : Nat) (s : BitVec 64) (n : Nat) (hn : n ≤ 1000000) (m : Int) (w : World) (h : RGen w b s n) (hm : 1 ≤ m) (hm2 : m ≤ 9223372036854775807) :
    Calls Try.prog 18 #[.pointer (some ⟨b, 0, none⟩), .int .i64 m] w fun e w' => e = .returned (.tuple #[.int .i64 (modI (atI (U s) (n : Int)) m), .int .i64 0]) ∧ RGen w' b s (n + 1) ∧ One b w w' :=
  (refBelow_at b _ _ m w h hm hm2).mono fun _ _ ⟨he, hm, hk⟩ => ⟨by rw [he, ref_num s n hn], by unfold RGen; rw [inc_num n hn] at hm; exact hm, hk⟩

/-- A number of a byte. -/
theorem byte_of {n : Int} (h : (Lit.int .u8 n).wf = true) : ∃ m : Nat, n = (m : Int) ∧ m ≤ 255 := by
  have := bounds_u8 h
  exact ⟨n.toNat, by omega, by omega⟩
end Go.Proofs.Ytfnajddkaapejaa
