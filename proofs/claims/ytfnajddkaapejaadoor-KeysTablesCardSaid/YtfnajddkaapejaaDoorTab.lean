/-
  A table of keys in memory: a mark and 781 numbers; the operations that make one.
-/
import Derived.Test.YtfnajddkaapejaaDoorMixA
import Derived.Test.YtfnajddkaapejaaDoorArr
namespace Go.Proofs.YtfnajddkaapejaaDoor
open Go.RowKit

/-- The cells of a table. -/
def tabA (made : Bool) (f : Nat → Int) : Array Value := #[.bool made] ++ nums .u64 781 f
theorem tabA_mark (made : Bool) (f : Nat → Int) : (tabA made f)[0]? = some (.bool made) := by
  unfold tabA
  rw [Array.getElem?_append_left (by simp)]
  rfl
theorem tabA_get (made : Bool) (f : Nat → Int) (i : Nat) (h : i < 781) : (tabA made f)[1 + i]? = some (.int .u64 (f i)) := by
  unfold tabA
  rw [Array.getElem?_append_right (by simp)]
  simp only [List.size_toArray, List.length_cons, List.length_nil]
  rw [show 1 + i - (0 + 1) = i from by omega]
  exact nums_get _ _ _ _ h
theorem nums_set (k : IntKind) (n : Nat) (f : Nat → Int) (i : Nat) (v : Int) : (nums k n f).setIfInBounds i (.int k v) = nums k n (fun j => if j = i then v else f j) := by
  unfold nums
  apply Array.ext
  · simp
  · intro j h1 h2
    simp at h1 h2 ⊢
    by_cases hj : i = j
    · subst hj; simp
    · have : ¬ j = i := fun e => hj e.symm
      simp [hj, this]
theorem tabA_set (made : Bool) (f : Nat → Int) (i : Nat) (v : Int) : (tabA made f).setIfInBounds (1 + i) (.int .u64 v) = tabA made (fun j => if j = i then v else f j) := by
  unfold tabA
  rw [← nums_set, Array.setIfInBounds_append_right (by simp)]
  simp
theorem nums_congr (k : IntKind) (n : Nat) {f g : Nat → Int} (h : ∀ i, i < n → f i = g i) : nums k n f = nums k n g := by
  unfold nums
  congr 1
  exact List.map_congr_left fun i hi => by rw [h i (List.mem_range.1 hi)]
theorem tabA_congr (made : Bool) {f g : Nat → Int} (h : ∀ i, i < 781 → f i = g i) : tabA made f = tabA made g := by
  unfold tabA
  rw [nums_congr _ _ h]

/-- A table of package keys in memory. -/
abbrev Tab (w : World) (b : Nat) (made : Bool) (f : Nat → Int) : Prop := Blk w b (tabA made f) 53
theorem Tab.mark {w : World} {b : Nat} {made : Bool} {f : Nat → Int} (h : Tab w b made f) : w.cell? ⟨b, 0, none⟩ = some (.bool made) := (h.cell 0).trans (tabA_mark made f)
theorem Tab.key {w : World} {b : Nat} {made : Bool} {f : Nat → Int} (h : Tab w b made f) (i : Nat) (hi : i < 781) : w.cell? ⟨b, 1 + i, none⟩ = some (.int .u64 (f i)) := (h.cell (1 + i)).trans (tabA_get made f i hi)

/-- One operation whose run is known. -/
theorem wpList_value {P : Program} {ops : Array Oper} {rest : List Oper} {o : Oper} {a : Act} {w : World} {Q : Exit → Act → World → Prop} (hgd : o.guard = none) (v : Value) (w' : World)
    (hrun : (execOp a.eval o).run P w = .ok (.value v) w') (h : wpList P ops Q rest (a.put o.dst v) w') : wpList P ops Q (o :: rest) a w :=
  wpList_plain hgd fun K hK => by
    unfold Oper.wp
    rw [hrun]
    exact hK _ _ h
end Go.Proofs.YtfnajddkaapejaaDoor
