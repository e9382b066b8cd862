/-
  The walk of keys.Of.
-/
import Derived.Test.YtfnajddkaapejaaDoorZero
import Derived.Deep.RegionWith
namespace Go.Proofs.YtfnajddkaapejaaDoor
open Go.RowKit

/-- The keys behind k rounds of filling. -/
def part (s : Int) (k : Nat) : Nat → Int := fun i => if i < k then atI s (i : Int) else 0
theorem part_zero (s : Int) : part s 0 = fun _ => 0 := by funext i; simp [part]
theorem part_succ (s : Int) (k : Nat) : (fun j => if j = k then atI s (k : Int) else part s k j) = part s (k + 1) := by
  funext j
  unfold part
  by_cases h : j = k
  · subst h; simp
  · by_cases h2 : j < k
    · rw [if_neg h, if_pos h2, if_pos (by omega)]
    · rw [if_neg h, if_neg h2, if_neg (by omega)]

set_option maxHeartbeats 1000000 in
theorem of_zero (s : Int) (w : World) :
    Calls Tryd.prog 10 #[.int .i64 1, .int .u64 s] w fun e w' => e = .returned (.tuple #[.pointer (some ⟨w.heap.size, 0, none⟩), .int .i64 0]) ∧ w' = w.alloc (.cells (tabA true fun _ => 0) 53) := by
  go_enter Tryd.func10, Tryd.ntmps10
  go_wp2_with (refine wpList_value rfl (.agg (tabA true fun _ => 0)) _ (exec_made _ rfl _ _) ?_)
  go_ret2
  exact ⟨rfl, rfl⟩
set_option maxHeartbeats 1000000 in
theorem of_other (n s : Int) (w : World) (h0 : ¬ n = 0) (h1 : ¬ n = 1) (h2 : ¬ n = 2) :
    Calls Tryd.prog 10 #[.int .i64 n, .int .u64 s] w fun e w' => e = .returned (.tuple #[.pointer none, .int .i64 2]) ∧ Kin w w' := by
  have e0 : (n == 0) = false := beq_eq_false_iff_ne.2 h0
  have e1 : (n == 1) = false := beq_eq_false_iff_ne.2 h1
  have e2 : (n == 2) = false := beq_eq_false_iff_ne.2 h2
  clear h0 h1 h2
  go_enter Tryd.func10, Tryd.ntmps10
  go_wp2_with (refine wpList_value rfl (.agg (tabA true fun _ => 0)) _ (exec_made _ rfl _ _) ?_)
  go_ret2
  exact ⟨rfl, (Ch.refl _ _).alloc _ _⟩
set_option maxHeartbeats 1000000 in
theorem of_seeded (s : Int) (w : World) :
    Calls Tryd.prog 10 #[.int .i64 2, .int .u64 s] w fun e w' => e = .returned (.tuple #[.pointer (some ⟨w.heap.size, 0, none⟩), .int .i64 0]) ∧ Tab w' w.heap.size true (part s 781) ∧ Kin w w' := by
  go_enter Tryd.func10, Tryd.ntmps10
  go_wp2_with (refine wpList_value rfl (.agg (tabA true fun _ => 0)) _ (exec_made _ rfl _ _) ?_)
  go_loopw [18] (fun i wr => ∃ k : Nat, k ≤ 781 ∧ i = .int .i64 k ∧ Tab wr w.heap.size true (part s k) ∧ Kin w wr) (fun i _ => 781 - (intOf i).toNat)
  case atStart => exact ⟨0, Nat.zero_le _, rfl, by rw [part_zero]; exact Blk.new _ _ _, (Ch.refl _ _).alloc _ _⟩
  case round =>
    obtain ⟨k, hk, rfl, g, kk⟩ := hrel
    by_cases hlt : k < 781
    · have hlt' : (k : Int) < 781 := by omega
      go_wp2_with fail
      have ek : IntKind.u64.wrap (k : Int) = (k : Int) := IntWalk.u64_in _ (by omega)
      have gd : Tab wr.drew w.heap.size true (part s k) := g
      have kd : Kin w wr.drew := kk.drew
      clear g kk
      go_region_with (go_at_call 16; refine (at_any _ _ _).mono ?_; rintro e w1 ⟨rfl, k1⟩; have f2 := (gd.keep k1 (fun f => f)).free (1 + k); have c2 := Tab.key (gd.keep k1 (fun f => f)) k hlt)
      have g1 := gd.keep k1 (fun f => f)
      have K1 := kd.kin k1
      clear gd kd k1 ek
      go_wp2_with fail
      go_roundw
      case rel =>
        refine ⟨k + 1, by omega, by go_num, ?_, K1.one (One.set1 w.heap.size (1 + k) _ w1) (Nat.le_refl _)⟩
        have h := Blk.set g1 (1 + k) (.int .u64 (atI s (k : Int)))
        rw [tabA_set, part_succ] at h
        exact h
      case measure => simp [intOf]; omega
    · have : k = 781 := by omega
      subst this
      go_wp2_with fail
      go_ret2
      exact ⟨rfl, g, kk⟩

/-- The seed of the standard table. -/
abbrev std : Int := 499917877359
set_option maxHeartbeats 1000000 in
theorem of_standard (z : Int) (w : World) :
    Calls Tryd.prog 10 #[.int .i64 0, .int .u64 z] w fun e w' => e = .returned (.tuple #[.pointer (some ⟨w.heap.size, 0, none⟩), .int .i64 0]) ∧ Tab w' w.heap.size true (part std 781) ∧ Kin w w' := by
  go_enter Tryd.func10, Tryd.ntmps10
  go_wp2_with (refine wpList_value rfl (.agg (tabA true fun _ => 0)) _ (exec_made _ rfl _ _) ?_)
  go_loopw [18] (fun i wr => ∃ k : Nat, k ≤ 781 ∧ i = .int .i64 k ∧ Tab wr w.heap.size true (part std k) ∧ Kin w wr) (fun i _ => 781 - (intOf i).toNat)
  case atStart => exact ⟨0, Nat.zero_le _, rfl, by rw [part_zero]; exact Blk.new _ _ _, (Ch.refl _ _).alloc _ _⟩
  case round =>
    obtain ⟨k, hk, rfl, g, kk⟩ := hrel
    by_cases hlt : k < 781
    · have hlt' : (k : Int) < 781 := by omega
      go_wp2_with fail
      have ek : IntKind.u64.wrap (k : Int) = (k : Int) := IntWalk.u64_in _ (by omega)
      have gd : Tab wr.drew w.heap.size true (part std k) := g
      have kd : Kin w wr.drew := kk.drew
      clear g kk
      go_region_with (go_at_call 16; refine (at_any _ _ _).mono ?_; rintro e w1 ⟨rfl, k1⟩; have f2 := (gd.keep k1 (fun f => f)).free (1 + k); have c2 := Tab.key (gd.keep k1 (fun f => f)) k hlt)
      have g1 := gd.keep k1 (fun f => f)
      have K1 := kd.kin k1
      clear gd kd k1 ek
      go_wp2_with fail
      go_roundw
      case rel =>
        refine ⟨k + 1, by omega, by go_num, ?_, K1.one (One.set1 w.heap.size (1 + k) _ w1) (Nat.le_refl _)⟩
        have h := Blk.set g1 (1 + k) (.int .u64 (atI std (k : Int)))
        rw [tabA_set, part_succ] at h
        exact h
      case measure => simp [intOf]; omega
    · have : k = 781 := by omega
      subst this
      go_wp2_with fail
      go_ret2
      exact ⟨rfl, g, kk⟩
end Go.Proofs.YtfnajddkaapejaaDoor
