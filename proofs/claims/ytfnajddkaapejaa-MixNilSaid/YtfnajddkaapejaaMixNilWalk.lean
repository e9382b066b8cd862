/-
  The walk of MixNil.
-/
import Derived.Test.YtfnajddkaapejaaGen
namespace Go.Proofs.Ytfnajddkaapejaa
open Go.RowKit
set_option maxHeartbeats 1000000 in
theorem MixNil_walk (a0 : Int) (_w0 : (Lit.int .i64 a0).wf = true) (w : World) :
    Calls Try.prog 7 #[.int .i64 a0] w fun e w' => e = .returned (.bool true) ∧ Grown w w' := by
  clear _w0
  go_enter Try.func7, Try.ntmps7
  go_wp2_with fail
  refine wp_loop_rounds 3 ?_
  rw [rounds_succ]
  go_wp2_with fail
  refine (below_nil a0 _).mono ?_
  rintro e w3 ⟨rfl, rfl⟩
  go_wp2_with fail
  refine (next_nil _).mono ?_
  rintro e w3 ⟨rfl, rfl⟩
  go_wp2_with fail
  refine (pos_nil _).mono ?_
  rintro e w3 ⟨rfl, rfl⟩
  go_wp2_with fail
  refine (copy_nil _).mono ?_
  rintro e w3 ⟨rfl, rfl⟩
  go_wp2_with fail
  rw [rounds_succ]
  go_wp2_with fail
  refine (below_zero _ a0 _ (((Blk.new w #[.bool false, .int .u64 0, .int .u64 0] 43).alloc _).cell 0)).mono ?_
  rintro e w3 ⟨rfl, rfl⟩
  go_wp2_with fail
  refine (next_zero _ _ (((Blk.new w #[.bool false, .int .u64 0, .int .u64 0] 43).alloc _).cell 0)).mono ?_
  rintro e w3 ⟨rfl, rfl⟩
  go_wp2_with fail
  refine (pos_zero _ _ (((Blk.new w #[.bool false, .int .u64 0, .int .u64 0] 43).alloc _).cell 0)).mono ?_
  rintro e w3 ⟨rfl, rfl⟩
  go_wp2_with fail
  refine (copy_zero _ _ (((Blk.new w #[.bool false, .int .u64 0, .int .u64 0] 43).alloc _).cell 0)).mono ?_
  rintro e w3 ⟨rfl, rfl⟩
  go_wp2_with fail
  rw [rounds_succ]
  go_wp2_with fail
  refine (works_any _).mono ?_
  rintro e w5 ⟨rfl, k6⟩
  go_wp2_with fail
  go_ret
  exact ⟨rfl, (Ch.kin (((Ch.refl (fun _ => False) w).alloc _ _).alloc _ _) k6).grown⟩
end Go.Proofs.Ytfnajddkaapejaa
