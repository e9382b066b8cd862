/-
  An array of whole numbers as one value: its cells; '==' between two of them; a load of it out of the middle of a block. No program.
-/
import Derived.Laws.StructEq
import Derived.Laws.Rows
import Derived.WalkKit
namespace Go.Proofs.YtfnajddkaapejaaDoor
open Go.RowKit

/-- n numbers, as cells. -/
def nums (k : IntKind) (n : Nat) (f : Nat → Int) : Array Value := ((List.range n).map fun i => Value.int k (f i)).toArray
theorem nums_size (k : IntKind) (n : Nat) (f : Nat → Int) : (nums k n f).size = n := by simp [nums]
theorem nums_get (k : IntKind) (n : Nat) (f : Nat → Int) (i : Nat) (h : i < n) : (nums k n f)[i]? = some (.int k (f i)) := by simp [nums, h]

/-- Do two rows of n numbers agree? -/
def allEq (f g : Nat → Int) (n : Nat) : Bool := (List.range n).all fun i => f i == g i
theorem allEq_true {f g : Nat → Int} {n : Nat} (h : ∀ i, i < n → f i = g i) : allEq f g n = true := by
  unfold allEq
  rw [List.all_eq_true]
  intro i hi
  rw [h i (List.mem_range.1 hi)]
  exact beq_self_eq_true _
theorem allEq_false {f g : Nat → Int} {n : Nat} (i : Nat) (hi : i < n) (h : f i ≠ g i) : allEq f g n = false := by
  unfold allEq
  rw [List.all_eq_false]
  exact ⟨i, List.mem_range.2 hi, by simpa using h⟩

section
variable {P : Program} (w : World)
theorem run_isAgg_int {e : TypeId} {k : IntKind} (he : P.underlying e = some (.int k)) : (isAgg e).run P w = .ok false w := by
  unfold isAgg
  rw [Sem.run_bind, run_underlying he w]
  rfl
theorem run_part {e : TypeId} {k : IntKind} (he : P.underlying e = some (.int k)) (n : Nat) (f : Nat → Int) (i : Nat) (hi : i < n) : (part e (nums k n f) i).run P w = .ok (.int k (f i)) w := by
  unfold part
  rw [Sem.run_bind, run_isAgg_int w he]
  simp [nums_get k n f i hi]

theorem run_eqRow (d : Nat) {e : TypeId} {k : IntKind} (he : P.underlying e = some (.int k)) (n : Nat) (f g : Nat → Int) (l : List Nat) (hl : ∀ i ∈ l, i < n) :
    (forIn (m := Sem) l ((none, ()) : Option Bool × Unit) fun i _ => do
      let a ← part e (nums k n f) i
      let b ← part e (nums k n g) i
      let r ← Op.equalIn (d + 1) e a b
      if (!r) = true then pure (ForInStep.done (some false, ())) else pure (ForInStep.yield (none, ()))).run P w =
    .ok (if l.all (fun i => f i == g i) then (none, ()) else (some false, ())) w := by
  induction l with
  | nil => simp
  | cons i l ih =>
    have h1 := run_part w he n f i (hl i (by simp))
    have h2 := run_part w he n g i (hl i (by simp))
    have ih' := ih (fun j hj => hl j (by simp [hj]))
    simp only [List.forIn_cons, Sem.run_bind, h1, h2, Result.andThen_ok, run_equalIn_int w d e k k _ _ he]
    cases hb : (f i == g i)
    · simp [hb]
    · simp only [Bool.not_true, Bool.false_eq_true, if_false, Sem.run_pure, Result.andThen_ok, List.all_cons, hb, Bool.true_and]
      exact ih'
theorem run_eqArr (d : Nat) {t e : TypeId} {k : IntKind} (n : Nat) (ht : P.underlying t = some (.array n e)) (he : P.underlying e = some (.int k)) {i : TypeInfo} (hi : P.info? e = some i) (hs : i.size = 1) (f g : Nat → Int) :
    (Op.equalIn (d + 1 + 1) t (.agg (nums k n f)) (.agg (nums k n g))).run P w = .ok (allEq f g n) w := by
  rw [Op.equalIn]
  have hsz : (sizeOf e).run P w = .ok 1 w := by simp [sizeOf, typeInfo, hi, hs]
  simp only [Sem.run_bind, run_underlying ht, Result.andThen_ok, hsz, Nat.mul_one]
  rw [Std.Legacy.Range.forIn_eq_forIn_range']
  have hr : List.range' [:n].start [:n].size [:n].step = List.range n := by
    rw [List.range_eq_range']
    simp [Std.Legacy.Range.size]
  rw [hr, run_eqRow w d he n f g (List.range n) (fun i hi => List.mem_range.1 hi)]
  unfold allEq
  cases hb : (List.range n).all fun i => f i == g i <;> simp
theorem run_eql_nums {t e : TypeId} {k : IntKind} (n : Nat) (ht : P.underlying t = some (.array n e)) (he : P.underlying e = some (.int k)) {i : TypeInfo} (hi : P.info? e = some i) (hs : i.size = 1) (f g : Nat → Int) :
    (binOp .eql t (.agg (nums k n f)) (.agg (nums k n g))).run P w = .ok (.bool (allEq f g n)) w := by
  simp only [binOp]
  have h := run_eqArr w 9998 n ht he hi hs f g
  simp only [Op.equal, Op.maxDepth, Sem.run_bind]
  rw [h]
  rfl

/-- A load of an array out of a block, from its cell o on. -/
theorem run_load_nums (b o : Nat) {t e : TypeId} {k : IntKind} (n : Nat) (f : Nat → Int) (ht : P.underlying t = some (.array n e)) {i : TypeInfo} (hi : P.info? t = some i) (hs : i.size = n)
    (hc : ∀ j, j < n → w.cell? ⟨b, o + j, none⟩ = some (.int k (f j))) :
    (loadVar t ⟨b, o, none⟩).run P w = .ok (.agg (nums k n f)) w := by
  have hl : (loadCells ⟨b, o, none⟩ (nums k n f).toList.length).run P w = .ok (nums k n f).toList.toArray w :=
    run_loadCells_list (P := P) w ⟨b, o, none⟩ (nums k n f).toList (fun j v hv => by
      have hadd : (⟨b, o, none⟩ : Addr).add j = ⟨b, o + j, none⟩ := by unfold Addr.add; split <;> simp_all
      have hj : j < n := by
        have := (List.getElem?_eq_some_iff.1 hv).1
        simpa [nums_size] using this
      have hv' : (nums k n f)[j]? = some v := by simpa using hv
      rw [nums_get k n f j hj] at hv'
      rw [hadd, hc j hj, hv'])
  simp only [Array.length_toList, Array.toArray_toList, nums_size] at hl
  have hagg : (isAgg t).run P w = .ok true w := by
    unfold isAgg
    rw [Sem.run_bind, run_underlying ht w]
    rfl
  simp [loadVar, Sem.run_bind, hagg, sizeOf, typeInfo, hi, hs, hl]
end
end Go.Proofs.YtfnajddkaapejaaDoor
