/-
  The counts of KeysRoles, plainly: each index is counted once; the array of counts in memory.
-/
import Derived.Test.YtfnajddkaapejaaDoorKWorks
namespace Go.Proofs.YtfnajddkaapejaaDoor
open Go.RowKit

/-! ### The counts, plainly. -/
/-- The piece of a row of 64 indexes. -/
def pieceOf (r : Nat) : Nat := if r % 2 = 0 then 7 + r / 2 else 1 + r / 2
/-- Behind the pieces below p, and the squares below q of piece p. -/
def cA (p q : Nat) (i : Nat) : Int := if i < 768 ∧ (pieceOf (i / 64) < p ∨ pieceOf (i / 64) = p ∧ i % 64 < q) then 1 else 0
/-- Behind the rights below k. -/
def cB (k : Nat) (i : Nat) : Int := if i < 768 ∨ i = 768 ∧ 1 < k ∨ i = 769 ∧ 2 < k ∨ i = 770 ∧ 4 < k ∨ i = 771 ∧ 8 < k then 1 else 0
/-- Behind the files below q. -/
def cC (q : Nat) (i : Nat) : Int := if i < 772 + q then 1 else 0

theorem cA_start (i : Nat) : cA 1 0 i = 0 := by
  have h : 1 ≤ pieceOf (i / 64) := by unfold pieceOf; split <;> omega
  unfold cA
  rw [if_neg (by omega)]
theorem cA_next (p : Nat) : cA p 64 = cA (p + 1) 0 := by
  funext i
  unfold cA
  generalize pieceOf (i / 64) = x
  by_cases h : i < 768 ∧ (x < p ∨ x = p ∧ i % 64 < 64)
  · rw [if_pos h, if_pos (by omega)]
  · rw [if_neg h, if_neg (by omega)]
theorem piece_index (p q : Nat) (h1 : 1 ≤ p) (h2 : p ≤ 12) (h4 : q < 64) : ∃ j : Nat, pieceI (p : Int) (q : Int) = (j : Int) ∧ j ≤ 767 ∧ pieceOf (j / 64) = p ∧ j % 64 = q := by
  refine ⟨(pieceI (p : Int) (q : Int)).toNat, ?_, ?_, ?_, ?_⟩
  · unfold pieceI; omega
  · unfold pieceI; omega
  · unfold pieceI pieceOf; split <;> omega
  · unfold pieceI; omega
theorem row_of {i j : Nat} (hi : i < 768) (hj : j ≤ 767) (h1 : pieceOf (i / 64) = pieceOf (j / 64)) (h2 : i % 64 = j % 64) : i = j := by
  unfold pieceOf at h1
  split at h1 <;> split at h1 <;> omega
theorem cA_old (p q j : Nat) (h1 : pieceOf (j / 64) = p) (h2 : j % 64 = q) : cA p q j = 0 := by
  unfold cA
  rw [if_neg (by omega)]
theorem cA_step (p q j : Nat) (hj : j ≤ 767) (h1 : pieceOf (j / 64) = p) (h2 : j % 64 = q) : (fun i => if i = j then 1 else cA p q i) = cA p (q + 1) := by
  funext i
  by_cases h : i = j
  · subst h
    unfold cA
    rw [if_pos rfl, if_pos (by omega)]
  · rw [if_neg h]
    unfold cA
    by_cases hi : i < 768
    · have hne : ¬ (pieceOf (i / 64) = p ∧ i % 64 = q) := fun ⟨e1, e2⟩ => h (row_of hi hj (by omega) (by omega))
      by_cases hc : i < 768 ∧ (pieceOf (i / 64) < p ∨ pieceOf (i / 64) = p ∧ i % 64 < q)
      · rw [if_pos hc, if_pos (by omega)]
      · rw [if_neg hc, if_neg (by omega)]
    · rw [if_neg (by omega), if_neg (by omega)]
theorem pieceOf_le (r : Nat) (h : r < 12) : pieceOf r < 13 := by
  unfold pieceOf
  split <;> omega
theorem cB_start : cA 13 0 = cB 0 := by
  funext i
  unfold cA cB
  by_cases h : i < 768
  · rw [if_pos ⟨h, .inl (pieceOf_le _ (by omega))⟩, if_pos (by omega)]
  · rw [if_neg (by omega), if_neg (by omega)]
theorem cB_skip (k : Nat) (h : ¬ (k = 1 ∨ k = 2 ∨ k = 4 ∨ k = 8)) : cB (k + 1) = cB k := by
  funext i
  unfold cB
  by_cases hc : i < 768 ∨ i = 768 ∧ 1 < k ∨ i = 769 ∧ 2 < k ∨ i = 770 ∧ 4 < k ∨ i = 771 ∧ 8 < k
  · rw [if_pos hc, if_pos (by omega)]
  · rw [if_neg hc, if_neg (by omega)]
theorem right_index (k : Nat) (h : k = 1 ∨ k = 2 ∨ k = 4 ∨ k = 8) : ∃ j : Nat, castleV (k : Int) = (j : Int) ∧ castleE (k : Int) = 0 ∧ 768 ≤ j ∧ j ≤ 771 ∧ cB k j = 0 ∧ (fun i => if i = j then 1 else cB k i) = cB (k + 1) := by
  have step : ∀ j, (k = 1 ∧ j = 768 ∨ k = 2 ∧ j = 769 ∨ k = 4 ∧ j = 770 ∨ k = 8 ∧ j = 771) → cB k j = 0 ∧ (fun i => if i = j then 1 else cB k i) = cB (k + 1) := by
    intro j hj
    constructor
    · unfold cB
      rw [if_neg (by omega)]
    · funext i
      by_cases hi : i = j
      · rw [if_pos hi]
        unfold cB
        rw [if_pos (by omega)]
      · rw [if_neg hi]
        unfold cB
        by_cases hc : i < 768 ∨ i = 768 ∧ 1 < k ∨ i = 769 ∧ 2 < k ∨ i = 770 ∧ 4 < k ∨ i = 771 ∧ 8 < k
        · rw [if_pos hc, if_pos (by omega)]
        · rw [if_neg hc, if_neg (by omega)]
  rcases h with rfl | rfl | rfl | rfl
  · exact ⟨768, rfl, rfl, by omega, by omega, step 768 (by omega)⟩
  · exact ⟨769, rfl, rfl, by omega, by omega, step 769 (by omega)⟩
  · exact ⟨770, rfl, rfl, by omega, by omega, step 770 (by omega)⟩
  · exact ⟨771, rfl, rfl, by omega, by omega, step 771 (by omega)⟩
theorem cC_start : cB 17 = cC 0 := by
  funext i
  unfold cB cC
  by_cases h : i < 772
  · rw [if_pos (by omega), if_pos (by omega)]
  · rw [if_neg (by omega), if_neg (by omega)]
theorem cC_old (q : Nat) : cC q (772 + q) = 0 := by
  unfold cC
  rw [if_neg (by omega)]
theorem cC_step (q : Nat) : (fun i => if i = 772 + q then 1 else cC q i) = cC (q + 1) := by
  funext i
  unfold cC
  by_cases h : i = 772 + q
  · rw [if_pos h, if_pos (by omega)]
  · rw [if_neg h]
    by_cases h2 : i < 772 + q
    · rw [if_pos h2, if_pos (by omega)]
    · rw [if_neg h2, if_neg (by omega)]
theorem cC_one (i : Nat) (h : i < 781) : cC 9 i = 1 := by
  unfold cC
  rw [if_pos (by omega)]

/-! ### The array of counts in memory. -/
abbrev Cnt (w : World) (b : Nat) (f : Nat → Int) : Prop := Blk w b (nums .i64 781 f) 55
theorem Cnt.at {w : World} {b : Nat} {f : Nat → Int} (h : Cnt w b f) (i : Nat) (hi : i < 781) : w.cell? ⟨b, i, none⟩ = some (.int .i64 (f i)) := (h.cell i).trans (nums_get _ _ _ _ hi)
theorem Cnt.put {w : World} {b : Nat} {f : Nat → Int} (h : Cnt w b f) (i : Nat) (v : Int) : Cnt (w.setCell ⟨b, i, none⟩ (.int .i64 v)) b (fun j => if j = i then v else f j) := by
  have := Blk.set h i (.int .i64 v)
  rw [nums_set] at this
  exact this
theorem alloc_counts (w : World) : (Instr.alloc 55 true (.tuple #[])).run Tryd.prog w = .ok (.pointer (some ⟨w.heap.size, 0, none⟩)) (w.alloc (.cells (nums .i64 781 fun _ => 0) 55)) := by kernel_rfl
theorem exec_counts (o : Oper) (ho : o.op = .alloc 55) (a : Act) (w : World) : (execOp a.eval o).run Tryd.prog w = .ok (.value (.pointer (some ⟨w.heap.size, 0, none⟩))) (w.alloc (.cells (nums .i64 781 fun _ => 0) 55)) := by
  have h := alloc_counts w
  simp only [execOp, ho]
  rw [Sem.run_bind, h]
  rfl
end Go.Proofs.YtfnajddkaapejaaDoor
