/-
  The walks of the reference's Key and Same.
-/
import Derived.Test.YtfnajddkaapejaaDoorRefOf
namespace Go.Proofs.YtfnajddkaapejaaDoor
open Go.RowKit

theorem Blk.low {w w' : World} {b : Nat} {cs : Array Value} {t : TypeId} (h : Blk w b cs t) (k : Below w.heap.size w w') : Blk w' b cs t := (k.block b h.lt).trans h
theorem RTab.low {w w' : World} {b : Nat} {f : Nat → Int} (h : RTab w b f) (k : Below w.heap.size w w') : RTab w' b f := by
  obtain ⟨g, cap, h1, h2, h3, h4, h5⟩ := h
  exact ⟨g, cap, h1.low k, Nat.lt_of_lt_of_le h2 k.size, h3, h4, fun i hi => (k.cell (p := ⟨g, i, none⟩) h2).trans (h5 i hi)⟩
theorem Rights.low {w w' : World} (h : Rights w) (k : Below w.heap.size w w') : Rights w' := fun i hi => by
  have h0 := h i hi
  exact (k.cell (p := ⟨0, i, none⟩) (World.block_lt_of_cell? _ _ h0)).trans h0
theorem low_next {a b c : World} (h : Below a.heap.size a b) (k : Below b.heap.size b c) : Below a.heap.size a c := h.trans (k.mono h.size)
theorem low_drewN (w : World) (n : Nat) : Below w.heap.size w (w.drewN n) := ((Ch.refl (fun _ => False) w).drewN n).below

set_option maxHeartbeats 400000 in
theorem refKey_nil (i : Int) (w : World) :
    Calls Tryd.prog 22 #[.pointer none, .int .i64 i] w fun e w' => e = .returned (.tuple #[.int .u64 0, .int .i64 1]) ∧ w = w' := by
  go_enter Tryd.func22, Tryd.ntmps22
  go_wp2_with fail
  go_ret2
  exact ⟨rfl, rfl⟩
set_option maxRecDepth 100000 in
set_option maxHeartbeats 400000 in
theorem refKey_at {w : World} {b : Nat} {f : Nat → Int} (h : RTab w b f) (i : Nat) (hi : i < 781) :
    Calls Tryd.prog 22 #[.pointer (some ⟨b, 0, none⟩), .int .i64 (i : Int)] w fun e w' => e = .returned (.tuple #[.int .u64 (f i), .int .i64 0]) ∧ w = w' := by
  obtain ⟨g, cap, h1, h2, h3, h4, h5⟩ := h
  have c0 := h1.cell 0
  simp at c0
  have c1 := h5 i hi
  have hlt : (i : Int) < 781 := by omega
  clear h1 h5
  go_enter Tryd.func22, Tryd.ntmps22
  go_wp2_with fail
  go_ret2
  exact ⟨rfl, rfl⟩
set_option maxRecDepth 100000 in
set_option maxHeartbeats 400000 in
theorem refKey_out {w : World} {b : Nat} {f : Nat → Int} (h : RTab w b f) (i : Int) (hi : i < 0 ∨ 781 ≤ i) :
    Calls Tryd.prog 22 #[.pointer (some ⟨b, 0, none⟩), .int .i64 i] w fun e w' => e = .returned (.tuple #[.int .u64 0, .int .i64 3]) ∧ w = w' := by
  obtain ⟨g, cap, h1, h2, h3, h4, h5⟩ := h
  have c0 := h1.cell 0
  simp at c0
  clear h1 h5
  rcases hi with hi | hi
  · go_enter Tryd.func22, Tryd.ntmps22
    go_wp2_with fail
    go_ret2
    exact ⟨rfl, rfl⟩
  · have h0 : 0 ≤ i := by omega
    go_enter Tryd.func22, Tryd.ntmps22
    go_wp2_with fail
    go_ret2
    exact ⟨rfl, rfl⟩

set_option maxHeartbeats 400000 in
theorem refSame_left (q : Option Addr) (w : World) :
    Calls Tryd.prog 21 #[.pointer none, .pointer q] w fun e w' => e = .returned (.bool false) ∧ Below w.heap.size w w' := by
  go_enter Tryd.func21, Tryd.ntmps21
  go_wp2_with fail
  go_quiet (fail)
  go_wp2_with fail
  go_ret
  exact ⟨rfl, low_drewN _ _⟩
set_option maxHeartbeats 400000 in
theorem refSame_right (b : Nat) (w : World) :
    Calls Tryd.prog 21 #[.pointer (some ⟨b, 0, none⟩), .pointer none] w fun e w' => e = .returned (.bool false) ∧ Below w.heap.size w w' := by
  go_enter Tryd.func21, Tryd.ntmps21
  go_wp2_with fail
  go_quiet (fail)
  go_wp2_with fail
  go_ret
  exact ⟨rfl, low_drewN _ _⟩
set_option maxRecDepth 100000 in
set_option maxHeartbeats 1000000 in
theorem refSame_tabs {w : World} {b c : Nat} {f g : Nat → Int} (h : RTab w b f) (k : RTab w c g) :
    Calls Tryd.prog 21 #[.pointer (some ⟨b, 0, none⟩), .pointer (some ⟨c, 0, none⟩)] w fun e w' => e = .returned (.bool (allEq f g 781)) ∧ Below w.heap.size w w' := by
  have H := Lib.hid h
  have K := Lib.hid k
  obtain ⟨x, cap, h1, _, _, _, _⟩ := h
  obtain ⟨y, cap', k1, _, _, _, _⟩ := k
  have c0 := h1.cell 0
  have d0 := k1.cell 0
  simp at c0 d0
  clear h1 k1
  go_enter Tryd.func21, Tryd.ntmps21
  go_wp2_with fail
  go_quiet (fail)
  go_wp2_with fail
  clear c0 d0
  go_loopw [5] (fun iv wr => ∃ i : Nat, i ≤ 781 ∧ iv = .int .i64 i ∧ (∀ j, j < i → f j = g j) ∧ Below w.heap.size w wr) (fun iv _ => 781 - (intOf iv).toNat)
  case atStart => exact ⟨0, Nat.zero_le _, rfl, fun j hj => by omega, low_drewN _ _⟩
  case round =>
    obtain ⟨i, hi, rfl, heq, hb⟩ := hrel
    have E := Lib.hid heq
    clear heq
    obtain ⟨x, cap, h1, _, h3, _, h5⟩ := H.out.low hb
    obtain ⟨y, cap', k1, _, k3, _, k5⟩ := K.out.low hb
    have c0 := h1.cell 0
    have d0 := k1.cell 0
    simp at c0 d0
    clear h1 k1
    by_cases hlt : i < 781
    · have c1 := h5 i hlt
      have d1 := k5 i hlt
      have hlt2 : (i : Int) < 781 := by omega
      have hnn : (0 : Int) ≤ (i : Int) := by omega
      clear h5 k5
      by_cases he : f i = g i
      · have e1 : (f i != g i) = false := by rw [he]; exact bne_self_eq_false _
        have HE := Lib.hid he
        clear he
        go_wp2_with fail
        go_quiet (fail)
        go_wp2_with fail
        go_roundw
        case rel =>
          refine ⟨i + 1, by omega, by go_num, fun j hj => ?_, low_next hb (low_drewN _ _)⟩
          by_cases hj2 : j = i
          · rw [hj2]; exact HE.out
          · exact E.out j (by omega)
        case measure => simp [intOf]; omega
      · have e1 : (f i != g i) = true := by rw [bne_iff_ne]; exact he
        have HE := Lib.hid (show allEq f g 781 = false from allEq_false i hlt he)
        clear he
        go_wp2_with fail
        go_quiet (fail)
        go_wp2_with fail
        go_ret
        rw [HE.out]
        exact ⟨rfl, low_next hb (low_drewN _ _)⟩
    · have : i = 781 := by omega
      subst this
      clear h5 k5
      have HE := Lib.hid (show allEq f g 781 = true from allEq_true E.out)
      go_wp2_with fail
      go_ret
      rw [HE.out]
      exact ⟨rfl, hb⟩
end Go.Proofs.YtfnajddkaapejaaDoor
