/-
  The walk of the reference's Of: a table is a slice that grows by append.
-/
import Derived.Test.YtfnajddkaapejaaDoorKWorks
import Derived.Lib.SmallJoins
import Derived.Deep.AppendLies
namespace Go.Proofs.YtfnajddkaapejaaDoor
open Go.RowKit

theorem refAt_num (s : BitVec 64) (k : Nat) (hk : k ≤ 1000000) (w : World) :
    Calls Tryd.prog 31 #[.int .u64 (U s), .int .u64 (k : Int)] w fun e w' => e = .returned (.int .u64 (atI (U s) (k : Int))) ∧ w = w' := by
  have hn : (k : Int) = U (BitVec.ofNat 64 k) := (U_small (by omega)).symm
  have h := refAt_any (U s) (k : Int) w
  rw [show atR (U s) (k : Int) = atI (U s) (k : Int) from by rw [hn, atR_U, atI_U]] at h
  exact h

/-- The reference's table in memory: a pointer to a struct whose slice has 781 numbers. -/
def RTab (w : World) (b : Nat) (f : Nat → Int) : Prop :=
  ∃ g cap, Blk w b #[.slice (some ⟨g, 0, none⟩) 781 cap] 47 ∧ g < w.heap.size ∧ 781 ≤ cap ∧ cap ≤ maxLen ∧ ∀ i, i < 781 → w.cell? ⟨g, i, none⟩ = some (.int .u64 (f i))

/-- What has been gathered behind k rounds. -/
def vals (f : Nat → Int) (k : Nat) : List Value := (List.range k).map fun i => Value.int .u64 (f i)
theorem vals_succ (f : Nat → Int) (k : Nat) : vals f k ++ [.int .u64 (f k)] = vals f (k + 1) := by
  unfold vals
  rw [List.range_succ, List.map_append]
  rfl
theorem vals_get (f : Nat → Int) (n i : Nat) (h : i < n) : (vals f n)[i]? = some (.int .u64 (f i)) := by
  unfold vals
  simp [h]

/-- What holds at the head of a round: the table's block holds the slice v, which owns k numbers. -/
def Fill (w wr : World) (f : Nat → Int) (k : Nat) (v : Value) : Prop :=
  Blk wr w.heap.size #[v] 47 ∧ wr.ownsRow (w.heap.size + 1) 27 1 v k (vals f k) ∧ Below w.heap.size w wr

theorem Fill.start (w : World) (f : Nat → Int) : Fill w (w.alloc (.cells #[.slice none 0 0] 47)) f 0 (.slice none 0 0) :=
  ⟨Blk.new _ _ _, World.ownsRow_nil _ _ _ _, (Below.refl _ _).alloc (Nat.le_refl _) _⟩
theorem Fill.own {w wr : World} {f : Nat → Int} {k : Nat} {v : Value} (h : Fill w wr f k v) : v.ownBlock ≠ some w.heap.size := fun e => by
  have := h.2.1.lt _ e
  omega
/-- Behind the append, and behind the store into the table's block. -/
theorem Fill.grow {w wr w1 : World} {f : Nat → Int} {k : Nat} {v : Value} (h : Fill w wr f k v) (o : Obj) (hg : (wr.alloc o).grownBy w1 v.ownBlock) :
    Blk w1 w.heap.size #[v] 47 ∧ Below w.heap.size w w1 := by
  have hb := Blk.alloc h.1 o
  refine ⟨(hg.block _ hb.lt (fun e => h.own e.symm)).trans hb, (h.2.2.alloc h.2.2.size _).grown hg (by have := h.2.2.size; simp; omega) fun j e => ?_⟩
  have := h.2.1.lt _ e
  omega
theorem Fill.store {w w1 : World} {f : Nat → Int} {k : Nat} {v v' : Value} (hb : Blk w1 w.heap.size #[v] 47) (ho : w1.ownsRow (w.heap.size + 1) 27 1 v' (k + 1) (vals f (k + 1))) (hl : Below w.heap.size w w1) :
    Fill w (w1.setCell ⟨w.heap.size, 0, none⟩ v') f (k + 1) v' :=
  ⟨hb.set 0 v', ownsRow_setCell_below ho (by simp) v', hl.setCell (Nat.le_refl _) v'⟩
theorem Fill.done {w wr : World} {f : Nat → Int} {v : Value} (h : Fill w wr f 781 v) : RTab wr w.heap.size f := by
  obtain ⟨hb, ho, _⟩ := h
  obtain ⟨g, cap, rfl, _, hg⟩ := World.ownsRow.form ho (by decide)
  have hc : 781 ≤ cap ∧ cap ≤ maxLen := by
    rcases ho.2 with ⟨_, h0⟩ | ⟨g2, cap2, cur, hv, _, _, h1, h2, _⟩
    · omega
    · cases hv
      exact ⟨h1, h2⟩
  exact ⟨g, cap, hb, hg, hc.1, hc.2, fun i hi => (World.ownsRow.cellAt ho i (by omega)).trans (vals_get f 781 i hi)⟩

theorem info_u64 : (Tryd.prog.info? 27).map (fun i => (i.zero, i.size, i.bytes)) = some (some (.int .u64 0), 1, 8) := by kernel_rfl

set_option maxRecDepth 100000 in
set_option maxHeartbeats 2000000 in
theorem refOf_seeded (s : BitVec 64) (w : World) :
    Calls Tryd.prog 20 #[.int .i64 2, .int .u64 (U s)] w fun e w' => e = .returned (.tuple #[.pointer (some ⟨w.heap.size, 0, none⟩), .int .i64 0]) ∧ RTab w' w.heap.size (keysOf (U s)) ∧ Below w.heap.size w w' := by
  obtain ⟨i0, hi, hz0, hz1, hz2⟩ := info_parts info_u64
  go_enter Tryd.func20, Tryd.ntmps20
  go_wp2_with fail
  go_loopw [7] (fun i wr => ∃ (k : Nat) (v : Value), k ≤ 781 ∧ i = .int .i64 k ∧ Fill w wr (keysOf (U s)) k v) (fun i _ => 781 - (intOf i).toNat)
  case atStart => exact ⟨0, _, Nat.zero_le _, rfl, Fill.start w _⟩
  case round =>
    obtain ⟨k, v, hk, rfl, F⟩ := hrel
    by_cases hlt : k < 781
    · have hlt2 : (k : Int) < 781 := by omega
      have H := Lib.hid F
      have hown := F.2.1
      have c0 := F.1.cell 0
      simp at c0
      have hsz := F.1.lt
      clear F
      go_wp2_with fail
      refine (refAt_num s k (by omega) _).mono ?_
      rintro e w1 ⟨rfl, rfl⟩
      go_wp2_with (at_builtin; refine wpList_append_own _ rfl _ _ 45 rfl (w.heap.size + 1) 27 i0 (.int .u64 0) 1 8 Tryd.underlying45 hi hz0 hz1 hz2 rfl (by decide) _ _ _ rfl (hown.alloc _) ⟨wr.heap.size, 0, none⟩ 1 1 [.int .u64 (atI (U s) (k : Int))] rfl rfl ?c1 ?c2 ?c3 ?c4 ?c5 ?_)
      case c1 =>
        intro j u hj
        match j, hj with
        | 0, hj => simp at hj; subst hj; simp [Addr.add]
      case c2 => intro u hu; simp at hu; subst hu; rfl
      case c3 => unfold maxLen; omega
      case c4 => omega
      case c5 => simp; omega
      · intro v' w1 hown' hgrow _
        obtain ⟨hb1, hl1⟩ := H.out.grow _ hgrow
        have ho1 : w1.ownsRow (w.heap.size + 1) 27 1 v' (k + 1) (vals (keysOf (U s)) (k + 1)) := by
          rw [← vals_succ, keysOf_at _ _ hlt]
          exact hown'
        have hF := Fill.store hb1 ho1 hl1
        obtain ⟨g, cap, hv, _, _⟩ := World.ownsRow.form ho1 (by omega)
        rw [hv] at hF
        rw [hv]
        have c1 := hb1.cell 0
        have f1 := hb1.free 0
        simp at c1
        clear hown' hgrow hown H c0 hb1 hl1 ho1 hv
        go_wp2_with fail
        go_roundw
        case rel => exact ⟨k + 1, _, by omega, by go_num, hF⟩
        case measure => simp [intOf]; omega
    · have : k = 781 := by omega
      subst this
      go_wp2_with fail
      go_ret2
      exact ⟨rfl, F.done, F.2.2⟩
theorem refAt_std (k : Nat) (hk : k ≤ 1000000) (w : World) :
    Calls Tryd.prog 31 #[.int .u64 499917877359, .int .u64 (k : Int)] w fun e w' => e = .returned (.int .u64 (atI 499917877359 (k : Int))) ∧ w = w' := refAt_num 499917877359#64 k hk w
set_option maxRecDepth 100000 in
set_option maxHeartbeats 2000000 in
theorem refOf_standard (z : Int) (w : World) :
    Calls Tryd.prog 20 #[.int .i64 0, .int .u64 z] w fun e w' => e = .returned (.tuple #[.pointer (some ⟨w.heap.size, 0, none⟩), .int .i64 0]) ∧ RTab w' w.heap.size (keysOf std) ∧ Below w.heap.size w w' := by
  obtain ⟨i0, hi, hz0, hz1, hz2⟩ := info_parts info_u64
  go_enter Tryd.func20, Tryd.ntmps20
  go_wp2_with fail
  go_loopw [7] (fun i wr => ∃ (k : Nat) (v : Value), k ≤ 781 ∧ i = .int .i64 k ∧ Fill w wr (keysOf std) k v) (fun i _ => 781 - (intOf i).toNat)
  case atStart => exact ⟨0, _, Nat.zero_le _, rfl, Fill.start w _⟩
  case round =>
    obtain ⟨k, v, hk, rfl, F⟩ := hrel
    by_cases hlt : k < 781
    · have hlt2 : (k : Int) < 781 := by omega
      have H := Lib.hid F
      have hown := F.2.1
      have c0 := F.1.cell 0
      simp at c0
      have hsz := F.1.lt
      clear F
      go_wp2_with fail
      refine (refAt_std k (by omega) _).mono ?_
      rintro e w1 ⟨rfl, rfl⟩
      go_wp2_with (at_builtin; refine wpList_append_own _ rfl _ _ 45 rfl (w.heap.size + 1) 27 i0 (.int .u64 0) 1 8 Tryd.underlying45 hi hz0 hz1 hz2 rfl (by decide) _ _ _ rfl (hown.alloc _) ⟨wr.heap.size, 0, none⟩ 1 1 [.int .u64 (atI 499917877359 (k : Int))] rfl rfl ?c1 ?c2 ?c3 ?c4 ?c5 ?_)
      case c1 =>
        intro j u hj
        match j, hj with
        | 0, hj => simp at hj; subst hj; simp [Addr.add]
      case c2 => intro u hu; simp at hu; subst hu; rfl
      case c3 => unfold maxLen; omega
      case c4 => omega
      case c5 => simp; omega
      · intro v' w1 hown' hgrow _
        obtain ⟨hb1, hl1⟩ := H.out.grow _ hgrow
        have ho1 : w1.ownsRow (w.heap.size + 1) 27 1 v' (k + 1) (vals (keysOf std) (k + 1)) := by
          rw [← vals_succ, keysOf_at _ _ hlt]
          exact hown'
        have hF := Fill.store hb1 ho1 hl1
        obtain ⟨g, cap, hv, _, _⟩ := World.ownsRow.form ho1 (by omega)
        rw [hv] at hF
        rw [hv]
        have c1 := hb1.cell 0
        have f1 := hb1.free 0
        simp at c1
        clear hown' hgrow hown H c0 hb1 hl1 ho1 hv
        go_wp2_with fail
        go_roundw
        case rel => exact ⟨k + 1, _, by omega, by go_num, hF⟩
        case measure => simp [intOf]; omega
    · have : k = 781 := by omega
      subst this
      go_wp2_with fail
      go_ret2
      exact ⟨rfl, F.done, F.2.2⟩
set_option maxRecDepth 100000 in
set_option maxHeartbeats 2000000 in
theorem refOf_zero (z : Int) (w : World) :
    Calls Tryd.prog 20 #[.int .i64 1, .int .u64 z] w fun e w' => e = .returned (.tuple #[.pointer (some ⟨w.heap.size, 0, none⟩), .int .i64 0]) ∧ RTab w' w.heap.size zeros ∧ Below w.heap.size w w' := by
  obtain ⟨i0, hi, hz0, hz1, hz2⟩ := info_parts info_u64
  go_enter Tryd.func20, Tryd.ntmps20
  go_wp2_with fail
  go_loopw [7] (fun i wr => ∃ (k : Nat) (v : Value), k ≤ 781 ∧ i = .int .i64 k ∧ Fill w wr zeros k v) (fun i _ => 781 - (intOf i).toNat)
  case atStart => exact ⟨0, _, Nat.zero_le _, rfl, Fill.start w _⟩
  case round =>
    obtain ⟨k, v, hk, rfl, F⟩ := hrel
    by_cases hlt : k < 781
    · have hlt2 : (k : Int) < 781 := by omega
      have H := Lib.hid F
      have hown := F.2.1
      have c0 := F.1.cell 0
      simp at c0
      have hsz := F.1.lt
      clear F
      go_wp2_with (at_builtin; refine wpList_append_own _ rfl _ _ 45 rfl (w.heap.size + 1) 27 i0 (.int .u64 0) 1 8 Tryd.underlying45 hi hz0 hz1 hz2 rfl (by decide) _ _ _ rfl (hown.alloc _) ⟨wr.heap.size, 0, none⟩ 1 1 [.int .u64 0] rfl rfl ?c1 ?c2 ?c3 ?c4 ?c5 ?_)
      case c1 =>
        intro j u hj
        match j, hj with
        | 0, hj => simp at hj; subst hj; simp [Addr.add]
      case c2 => intro u hu; simp at hu; subst hu; rfl
      case c3 => unfold maxLen; omega
      case c4 => omega
      case c5 => simp; omega
      · intro v' w1 hown' hgrow _
        obtain ⟨hb1, hl1⟩ := H.out.grow _ hgrow
        have ho1 : w1.ownsRow (w.heap.size + 1) 27 1 v' (k + 1) (vals zeros (k + 1)) := by
          rw [← vals_succ]
          exact hown'
        have hF := Fill.store hb1 ho1 hl1
        obtain ⟨g, cap, hv, _, _⟩ := World.ownsRow.form ho1 (by omega)
        rw [hv] at hF
        rw [hv]
        have c1 := hb1.cell 0
        have f1 := hb1.free 0
        simp at c1
        clear hown' hgrow hown H c0 hb1 hl1 ho1 hv
        go_wp2_with fail
        go_roundw
        case rel => exact ⟨k + 1, _, by omega, by go_num, hF⟩
        case measure => simp [intOf]; omega
    · have : k = 781 := by omega
      subst this
      go_wp2_with fail
      go_ret2
      exact ⟨rfl, F.done, F.2.2⟩
set_option maxHeartbeats 1000000 in
theorem refOf_other (n s : Int) (w : World) (h0 : ¬ n = 0) (h1 : ¬ n = 1) (h2 : ¬ n = 2) :
    Calls Tryd.prog 20 #[.int .i64 n, .int .u64 s] w fun e w' => e = .returned (.tuple #[.pointer none, .int .i64 2]) ∧ w = w' := by
  have e0 : (n != 0) = true := by rw [bne_iff_ne]; exact h0
  have e1 : (n != 1) = true := by rw [bne_iff_ne]; exact h1
  have e2 : (n != 2) = true := by rw [bne_iff_ne]; exact h2
  clear h0 h1 h2
  go_enter Tryd.func20, Tryd.ntmps20
  go_wp2_with fail
  go_ret2
  exact ⟨rfl, rfl⟩
end Go.Proofs.YtfnajddkaapejaaDoor
