/-
  The walks of package mix that both seats use: rounds, mixed, At, valid, New, Next; and the reference's At.
-/
import Derived.Test.YtfnajddkaapejaaDoorRows
import Derived.Test.YtfnajddkaapejaaDoorPlain
import Derived.Test.YtfnajddkaapejaaDoorWorld
import Derived.WalkSpells
import Derived.WalkLawsBesides
import Derived.Handy
import Derived.Deep.QuietTactic
import Derived.BigQuiet
namespace Go.Proofs.YtfnajddkaapejaaDoor
open Go.RowKit

/-- The table of the rounds, as one value. -/
abbrev tab : Value := .agg #[.int .i64 30, .int .u64 13787848793156543929, .int .i64 27, .int .u64 10723151780598845931, .int .i64 31, .int .u64 1]

set_option maxHeartbeats 400000 in
theorem rounds_any (w : World) :
    Calls Tryd.prog 32 #[] w fun e w' => e = .returned tab ∧ Kin w w' := by
  go_enter Tryd.func32, Tryd.ntmps32
  go_wp2
  exact bodyPost_ret (v := tab) (by simp [results, Tryd.results32, go_sem]) rfl ⟨rfl, (Ch.refl _ _).alloc _ _⟩

set_option maxHeartbeats 1000000 in
theorem mixed_any (z : Int) (w : World) :
    Calls Tryd.prog 29 #[.int .u64 z] w fun e w' => e = .returned (.int .u64 (mixI z)) ∧ Kin w w' := by
  have i0 : ∀ w : World, (Instr.index 64 tab (.int .i64 0)).run Tryd.prog w = .ok (.agg #[.int .i64 30, .int .u64 13787848793156543929]) w := fun _ => by kernel_rfl
  have i1 : ∀ w : World, (Instr.index 64 tab (.int .i64 1)).run Tryd.prog w = .ok (.agg #[.int .i64 27, .int .u64 10723151780598845931]) w := fun _ => by kernel_rfl
  have i2 : ∀ w : World, (Instr.index 64 tab (.int .i64 2)).run Tryd.prog w = .ok (.agg #[.int .i64 31, .int .u64 1]) w := fun _ => by kernel_rfl
  go_enter Tryd.func29, Tryd.ntmps29
  go_wp2_with (go_at_call 32; refine (rounds_any _).mono ?_; rintro e w1 ⟨rfl, hg⟩)
  refine wp_loop_rounds 4 ?_
  rw [rounds_succ]
  go_wp2
  go_quiet (fail)
  go_wp2
  rw [rounds_succ]
  go_wp2
  go_quiet (fail)
  go_wp2
  rw [rounds_succ]
  go_wp2
  go_quiet (fail)
  go_wp2
  rw [rounds_succ]
  go_wp2
  go_ret
  exact ⟨rfl, ((((((hg.alloc _ _).drewN _).alloc _ _).drewN _).alloc _ _).drewN _)⟩

set_option maxHeartbeats 400000 in
theorem at_any (s i : Int) (w : World) :
    Calls Tryd.prog 16 #[.int .u64 s, .int .u64 i] w fun e w' => e = .returned (.int .u64 (atI s i)) ∧ Kin w w' := by
  go_enter Tryd.func16, Tryd.ntmps16
  go_wp2_with (go_at_call 29; refine (mixed_any _ _).mono ?_; rintro e w1 ⟨rfl, hg⟩)
  go_ret
  exact ⟨rfl, hg⟩

set_option maxHeartbeats 400000 in
theorem refAt_any (s i : Int) (w : World) :
    Calls Tryd.prog 31 #[.int .u64 s, .int .u64 i] w fun e w' => e = .returned (.int .u64 (atR s i)) ∧ w = w' := by
  go_enter Tryd.func31, Tryd.ntmps31
  go_wp2
  go_ret
  exact ⟨rfl, rfl⟩

/-- A generator of package mix in memory: made, its state, how many were drawn. -/
abbrev Mix (w : World) (b : Nat) (made : Bool) (st dr : Int) : Prop := Blk w b #[.bool made, .int .u64 st, .int .u64 dr] 60

set_option maxHeartbeats 400000 in
theorem valid_at (b : Nat) (x : Bool) (w : World) (h : w.cell? ⟨b, 0, none⟩ = some (.bool x)) :
    Calls Tryd.prog 30 #[.pointer (some ⟨b, 0, none⟩)] w fun e w' => e = .returned (.bool x) ∧ w = w' := by
  go_enter Tryd.func30, Tryd.ntmps30
  go_wp2
  go_ret
  exact ⟨rfl, rfl⟩
set_option maxHeartbeats 400000 in
theorem valid_nil (w : World) :
    Calls Tryd.prog 30 #[.pointer none] w fun e w' => e = .returned (.bool false) ∧ w = w' := by
  go_enter Tryd.func30, Tryd.ntmps30
  go_wp2
  go_ret
  exact ⟨rfl, rfl⟩

set_option maxHeartbeats 400000 in
theorem new_any (s : Int) (w : World) :
    Calls Tryd.prog 18 #[.int .u64 s] w fun e w' => e = .returned (.pointer (some ⟨w.heap.size, 0, none⟩)) ∧ w' = w.alloc (.cells #[.bool true, .int .u64 s, .int .u64 0] 60) := by
  go_enter Tryd.func18, Tryd.ntmps18
  go_wp2
  go_ret
  exact ⟨rfl, rfl⟩

/-- New, said without the world: a new block. -/
theorem new_kin (s : Int) (w : World) :
    Calls Tryd.prog 18 #[.int .u64 s] w fun e w' => ∃ b, e = .returned (.pointer (some ⟨b, 0, none⟩)) ∧ Mix w' b true s 0 ∧ w.heap.size ≤ b ∧ Kin w w' :=
  (new_any s w).mono fun _ _ ⟨he, hw⟩ => ⟨_, he, by rw [hw]; exact Blk.new _ _ _, Nat.le_refl _, by rw [hw]; exact (Ch.refl _ _).alloc _ _⟩

set_option maxHeartbeats 400000 in
theorem next_at (b : Nat) (st dr : Int) (w : World) (h : Mix w b true st dr) :
    Calls Tryd.prog 19 #[.pointer (some ⟨b, 0, none⟩)] w fun e w' => e = .returned (.int .u64 (mixI (addG st))) ∧ Mix w' b true (addG st) (inc dr) ∧ One b w w' := by
  have c0 := h.cell 0
  have c1 := h.cell 1
  have c2 := h.cell 2
  have f1 := h.free 1
  have f2 := h.free 2
  simp at c0 c1 c2
  have H := Lib.hid h
  clear h
  go_enter Tryd.func19, Tryd.ntmps19
  go_wp2_with (first | (go_at_call 30; refine (valid_at _ true _ (by assumption)).mono ?_; rintro e w1 ⟨rfl, rfl⟩) | (go_at_call 29; refine (mixed_any _ _).mono ?_; rintro e w1 ⟨rfl, hg⟩))
  go_ret
  refine ⟨rfl, ?_, ?_⟩
  · exact ((H.out.set 1 _).set 2 _).keep hg (fun f => f)
  · exact (One.set2 b 1 2 _ _ w).kin hg
set_option maxHeartbeats 400000 in
theorem next_nil (w : World) :
    Calls Tryd.prog 19 #[.pointer none] w fun e w' => e = .returned (.int .u64 0) ∧ w = w' := by
  go_enter Tryd.func19, Tryd.ntmps19
  go_wp2_with fail
  refine (valid_nil _).mono ?_
  rintro e w1 ⟨rfl, rfl⟩
  go_wp2_with fail
  go_ret
  exact ⟨rfl, rfl⟩
end Go.Proofs.YtfnajddkaapejaaDoor
