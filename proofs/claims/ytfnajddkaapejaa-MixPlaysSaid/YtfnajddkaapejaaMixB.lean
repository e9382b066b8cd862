/-
  The walks of package mix beyond XMixA: Pos, Copy, Below; and of the reference's generator.
-/
import Derived.Test.YtfnajddkaapejaaMixA
namespace Go.Proofs.Ytfnajddkaapejaa
open Go.RowKit

/-! ### Package mix: a generator that is not valid. -/
set_option maxHeartbeats 400000 in
theorem next_zero (b : Nat) (w : World) (c0 : w.cell? ⟨b, 0, none⟩ = some (.bool false)) :
    Calls Try.prog 12 #[.pointer (some ⟨b, 0, none⟩)] w fun e w' => e = .returned (.int .u64 0) ∧ w = w' := by
  go_enter Try.func12, Try.ntmps12
  go_wp2_with fail
  refine (valid_at _ false _ c0).mono ?_
  rintro e w1 ⟨rfl, rfl⟩
  go_wp2_with fail
  go_ret
  exact ⟨rfl, rfl⟩
set_option maxHeartbeats 400000 in
theorem pos_nil (w : World) :
    Calls Try.prog 11 #[.pointer none] w fun e w' => e = .returned (.int .u64 0) ∧ w = w' := by
  go_enter Try.func11, Try.ntmps11
  go_wp2_with fail
  refine (valid_nil _).mono ?_
  rintro e w1 ⟨rfl, rfl⟩
  go_wp2_with fail
  go_ret
  exact ⟨rfl, rfl⟩
set_option maxHeartbeats 400000 in
theorem pos_zero (b : Nat) (w : World) (c0 : w.cell? ⟨b, 0, none⟩ = some (.bool false)) :
    Calls Try.prog 11 #[.pointer (some ⟨b, 0, none⟩)] w fun e w' => e = .returned (.int .u64 0) ∧ w = w' := by
  go_enter Try.func11, Try.ntmps11
  go_wp2_with fail
  refine (valid_at _ false _ c0).mono ?_
  rintro e w1 ⟨rfl, rfl⟩
  go_wp2_with fail
  go_ret
  exact ⟨rfl, rfl⟩
set_option maxHeartbeats 400000 in
theorem copy_nil (w : World) :
    Calls Try.prog 19 #[.pointer none] w fun e w' => e = .returned (.pointer none) ∧ w = w' := by
  go_enter Try.func19, Try.ntmps19
  go_wp2_with fail
  refine (valid_nil _).mono ?_
  rintro e w1 ⟨rfl, rfl⟩
  go_wp2_with fail
  go_ret
  exact ⟨rfl, rfl⟩
set_option maxHeartbeats 400000 in
theorem copy_zero (b : Nat) (w : World) (c0 : w.cell? ⟨b, 0, none⟩ = some (.bool false)) :
    Calls Try.prog 19 #[.pointer (some ⟨b, 0, none⟩)] w fun e w' => e = .returned (.pointer none) ∧ w = w' := by
  go_enter Try.func19, Try.ntmps19
  go_wp2_with fail
  refine (valid_at _ false _ c0).mono ?_
  rintro e w1 ⟨rfl, rfl⟩
  go_wp2_with fail
  go_ret
  exact ⟨rfl, rfl⟩
set_option maxHeartbeats 400000 in
theorem below_nil (n : Int) (w : World) :
    Calls Try.prog 17 #[.pointer none, .int .i64 n] w fun e w' => e = .returned (.tuple #[.int .i64 0, .int .i64 1]) ∧ w = w' := by
  go_enter Try.func17, Try.ntmps17
  go_wp2_with fail
  refine (valid_nil _).mono ?_
  rintro e w1 ⟨rfl, rfl⟩
  go_wp2_with fail
  go_ret2
  exact ⟨rfl, rfl⟩
set_option maxHeartbeats 400000 in
theorem below_zero (b : Nat) (n : Int) (w : World) (c0 : w.cell? ⟨b, 0, none⟩ = some (.bool false)) :
    Calls Try.prog 17 #[.pointer (some ⟨b, 0, none⟩), .int .i64 n] w fun e w' => e = .returned (.tuple #[.int .i64 0, .int .i64 1]) ∧ w = w' := by
  go_enter Try.func17, Try.ntmps17
  go_wp2_with fail
  refine (valid_at _ false _ c0).mono ?_
  rintro e w1 ⟨rfl, rfl⟩
  go_wp2_with fail
  go_ret2
  exact ⟨rfl, rfl⟩

/-! ### Package mix: a valid one. -/
set_option maxHeartbeats 400000 in
theorem pos_at (b : Nat) (st dr : Int) (w : World) (h : Mix w b true st dr) :
    Calls Try.prog 11 #[.pointer (some ⟨b, 0, none⟩)] w fun e w' => e = .returned (.int .u64 dr) ∧ w = w' := by
  have c0 := h.cell 0
  have c2 := h.cell 2
  simp at c0 c2
  clear h
  go_enter Try.func11, Try.ntmps11
  go_wp2_with (go_at_call 23; refine (valid_at _ true _ (by assumption)).mono ?_; rintro e w1 ⟨rfl, rfl⟩)
  go_ret
  exact ⟨rfl, rfl⟩
set_option maxHeartbeats 400000 in
theorem copy_at (b : Nat) (st dr : Int) (w : World) (h : Mix w b true st dr) :
    Calls Try.prog 19 #[.pointer (some ⟨b, 0, none⟩)] w fun e w' => e = .returned (.pointer (some ⟨w.heap.size, 0, none⟩)) ∧ w' = w.alloc (.cells #[.bool true, .int .u64 st, .int .u64 dr] 43) := by
  have c0 := h.cell 0
  have c1 := h.cell 1
  have c2 := h.cell 2
  simp at c0 c1 c2
  clear h
  go_enter Try.func19, Try.ntmps19
  go_wp2_with (go_at_call 23; refine (valid_at _ true _ (by assumption)).mono ?_; rintro e w1 ⟨rfl, rfl⟩)
  go_ret
  exact ⟨rfl, rfl⟩
theorem copy_kin (b : Nat) (st dr : Int) (w : World) (h : Mix w b true st dr) :
    Calls Try.prog 19 #[.pointer (some ⟨b, 0, none⟩)] w fun e w' => ∃ c, e = .returned (.pointer (some ⟨c, 0, none⟩)) ∧ Mix w' c true st dr ∧ w.heap.size ≤ c ∧ Kin w w' :=
  (copy_at b st dr w h).mono fun _ _ ⟨he, hw⟩ => ⟨_, he, by rw [hw]; exact Blk.new _ _ _, Nat.le_refl _, by rw [hw]; exact (Ch.refl _ _).alloc _ _⟩
set_option maxHeartbeats 400000 in
theorem below_low (b : Nat) (st dr n : Int) (w : World) (h : Mix w b true st dr) (hn : n < 1) :
    Calls Try.prog 17 #[.pointer (some ⟨b, 0, none⟩), .int .i64 n] w fun e w' => e = .returned (.tuple #[.int .i64 0, .int .i64 2]) ∧ w = w' := by
  have c0 := h.cell 0
  simp at c0
  clear h
  go_enter Try.func17, Try.ntmps17
  go_wp2_with (go_at_call 23; refine (valid_at _ true _ (by assumption)).mono ?_; rintro e w1 ⟨rfl, rfl⟩)
  go_ret2
  exact ⟨rfl, rfl⟩
set_option maxHeartbeats 400000 in
theorem below_at (b : Nat) (st dr n : Int) (w : World) (h : Mix w b true st dr) (hn : 1 ≤ n) (hm : n ≤ 9223372036854775807) :
    Calls Try.prog 17 #[.pointer (some ⟨b, 0, none⟩), .int .i64 n] w fun e w' => e = .returned (.tuple #[.int .i64 (modI (mixI (addG st)) n), .int .i64 0]) ∧ Mix w' b true (addG st) (inc dr) ∧ One b w w' := by
  have c0 := h.cell 0
  simp at c0
  have H := Lib.hid h
  clear h
  go_enter Try.func17, Try.ntmps17
  go_wp2_with (first | (go_at_call 23; refine (valid_at _ true _ (by assumption)).mono ?_; rintro e w1 ⟨rfl, rfl⟩) | (go_at_call 12; refine (next_at b st dr _ H.out).mono ?_; rintro e w1 ⟨rfl, h1, h2⟩))
  go_ret2
  exact ⟨rfl, h1, h2⟩

/-! ### The reference's generator: made, its seed, how many were drawn. -/
abbrev Ref (w : World) (b : Nat) (made : Bool) (sd dr : Int) : Prop := Blk w b #[.bool made, .int .u64 sd, .int .u64 dr] 50

set_option maxHeartbeats 400000 in
theorem refValid_at (b : Nat) (x : Bool) (w : World) (h : w.cell? ⟨b, 0, none⟩ = some (.bool x)) :
    Calls Try.prog 25 #[.pointer (some ⟨b, 0, none⟩)] w fun e w' => e = .returned (.bool x) ∧ w = w' := by
  go_enter Try.func25, Try.ntmps25
  go_wp2
  go_ret
  exact ⟨rfl, rfl⟩
set_option maxHeartbeats 400000 in
theorem refValid_nil (w : World) :
    Calls Try.prog 25 #[.pointer none] w fun e w' => e = .returned (.bool false) ∧ w = w' := by
  go_enter Try.func25, Try.ntmps25
  go_wp2
  go_ret
  exact ⟨rfl, rfl⟩
set_option maxHeartbeats 400000 in
theorem refNew_any (s : Int) (w : World) :
    Calls Try.prog 15 #[.int .u64 s] w fun e w' => e = .returned (.pointer (some ⟨w.heap.size, 0, none⟩)) ∧ w' = w.alloc (.cells #[.bool true, .int .u64 s, .int .u64 0] 50) := by
  go_enter Try.func15, Try.ntmps15
  go_wp2
  go_ret
  exact ⟨rfl, rfl⟩
theorem refNew_kin (s : Int) (w : World) :
    Calls Try.prog 15 #[.int .u64 s] w fun e w' => ∃ b, e = .returned (.pointer (some ⟨b, 0, none⟩)) ∧ Ref w' b true s 0 ∧ w.heap.size ≤ b ∧ Kin w w' :=
  (refNew_any s w).mono fun _ _ ⟨he, hw⟩ => ⟨_, he, by rw [hw]; exact Blk.new _ _ _, Nat.le_refl _, by rw [hw]; exact (Ch.refl _ _).alloc _ _⟩
set_option maxHeartbeats 400000 in
theorem refNext_nil (w : World) :
    Calls Try.prog 16 #[.pointer none] w fun e w' => e = .returned (.int .u64 0) ∧ w = w' := by
  go_enter Try.func16, Try.ntmps16
  go_wp2_with fail
  refine (refValid_nil _).mono ?_
  rintro e w1 ⟨rfl, rfl⟩
  go_wp2_with fail
  go_ret
  exact ⟨rfl, rfl⟩
theorem refAt_same (s i : Int) (w : World) :
    Calls Try.prog 22 #[.int .u64 s, .int .u64 i] w fun e w' => e = .returned (.int .u64 (atR s i)) ∧ w' = w :=
  (refAt_any s i w).mono fun _ _ ⟨he, hw⟩ => ⟨he, hw.symm⟩
set_option maxHeartbeats 400000 in
theorem refNext_at (b : Nat) (sd dr : Int) (w : World) (h : Ref w b true sd dr) :
    Calls Try.prog 16 #[.pointer (some ⟨b, 0, none⟩)] w fun e w' => e = .returned (.int .u64 (atR sd (dec (inc dr)))) ∧ Ref w' b true sd (inc dr) ∧ One b w w' := by
  have c0 := h.cell 0
  have c1 := h.cell 1
  have c2 := h.cell 2
  have f2 := h.free 2
  simp at c0 c1 c2
  have H := Lib.hid h
  clear h
  go_enter Try.func16, Try.ntmps16
  go_wp2_with fail
  refine (refValid_at _ true _ c0).mono ?_
  rintro e w1 ⟨rfl, rfl⟩
  go_wp2_with fail
  go_quiet ((go_at_call 22; exact Calls.quiet_of_same (refAt_same _ _ _)))
  go_wp2_with fail
  go_ret
  refine ⟨rfl, ?_, ?_⟩
  · exact (H.out.set 2 _).keep ((Ch.refl (fun _ => False) _).drewN _) (fun f => f)
  · exact (One.set1 b 2 _ w).drewN _
set_option maxHeartbeats 400000 in
theorem refPos_nil (w : World) :
    Calls Try.prog 21 #[.pointer none] w fun e w' => e = .returned (.int .u64 0) ∧ w = w' := by
  go_enter Try.func21, Try.ntmps21
  go_wp2_with fail
  refine (refValid_nil _).mono ?_
  rintro e w1 ⟨rfl, rfl⟩
  go_wp2_with fail
  go_ret
  exact ⟨rfl, rfl⟩
set_option maxHeartbeats 400000 in
theorem refPos_at (b : Nat) (sd dr : Int) (w : World) (h : Ref w b true sd dr) :
    Calls Try.prog 21 #[.pointer (some ⟨b, 0, none⟩)] w fun e w' => e = .returned (.int .u64 dr) ∧ w = w' := by
  have c0 := h.cell 0
  have c2 := h.cell 2
  simp at c0 c2
  clear h
  go_enter Try.func21, Try.ntmps21
  go_wp2_with (go_at_call 25; refine (refValid_at _ true _ (by assumption)).mono ?_; rintro e w1 ⟨rfl, rfl⟩)
  go_ret
  exact ⟨rfl, rfl⟩
set_option maxHeartbeats 400000 in
theorem refBelow_low (b : Nat) (sd dr n : Int) (w : World) (h : Ref w b true sd dr) (hn : n < 1) :
    Calls Try.prog 18 #[.pointer (some ⟨b, 0, none⟩), .int .i64 n] w fun e w' => e = .returned (.tuple #[.int .i64 0, .int .i64 2]) ∧ w = w' := by
  have c0 := h.cell 0
  simp at c0
  clear h
  go_enter Try.func18, Try.ntmps18
  go_wp2_with (go_at_call 25; refine (refValid_at _ true _ (by assumption)).mono ?_; rintro e w1 ⟨rfl, rfl⟩)
  go_ret2
  exact ⟨rfl, rfl⟩
set_option maxHeartbeats 400000 in
theorem refBelow_at (b : Nat) (sd dr n : Int) (w : World) (h : Ref w b true sd dr) (hn : 1 ≤ n) (hm : n ≤ 9223372036854775807) :
    Calls Try.prog 18 #[.pointer (some ⟨b, 0, none⟩), .int .i64 n] w fun e w' => e = .returned (.tuple #[.int .i64 (modI (atR sd (dec (inc dr))) n), .int .i64 0]) ∧ Ref w' b true sd (inc dr) ∧ One b w w' := by
  have c0 := h.cell 0
  simp at c0
  have H := Lib.hid h
  clear h
  go_enter Try.func18, Try.ntmps18
  go_wp2_with (first | (go_at_call 25; refine (refValid_at _ true _ (by assumption)).mono ?_; rintro e w1 ⟨rfl, rfl⟩) | (go_at_call 16; refine (refNext_at b sd dr _ H.out).mono ?_; rintro e w1 ⟨rfl, h1, h2⟩))
  go_ret2
  exact ⟨rfl, h1, h2⟩
def RefNew (sd dr : Int) (w : World) (e : Ending) (w' : World) : Prop := ∃ c, e = .returned (.pointer (some ⟨c, 0, none⟩)) ∧ Ref w' c true sd dr ∧ w.heap.size ≤ c ∧ Kin w w'
set_option maxHeartbeats 400000 in
theorem refCopy_at (b : Nat) (sd dr : Int) (w : World) (h : Ref w b true sd dr) :
    Calls Try.prog 20 #[.pointer (some ⟨b, 0, none⟩)] w (RefNew sd dr w) := by
  have c0 := h.cell 0
  have c1 := h.cell 1
  have c2 := h.cell 2
  simp at c0 c1 c2
  clear h
  go_enter Try.func20, Try.ntmps20
  go_wp2_with (go_at_call 25; refine (refValid_at _ true _ (by assumption)).mono ?_; rintro e w1 ⟨rfl, rfl⟩)
  go_region
  go_wp2
  go_ret
  exact ⟨_, rfl, (Blk.new _ _ _).keep ((Ch.refl (fun _ => False) _).drew) (fun f => f), Nat.le_refl _, ((Ch.refl _ _).alloc _ _).drew⟩
end Go.Proofs.Ytfnajddkaapejaa
