/-
  Small words on worlds, no program: which old blocks a call may have turned ('Ch'), a block that is known whole ('Blk').
-/
import Derived.WalkKit
import Derived.OneCell
import Derived.Deep.QuietTactic
import Derived.Lib.Hide
namespace Go.Proofs.YtfnajddkaapejaaDoor
open Go.RowKit

/-- Of the old blocks only those of S may have turned; no cell's mark has turned; no block has gone. -/
structure Ch (S : Nat → Prop) (w w' : World) : Prop where
  os : w'.os = w.os
  tape : w'.tape = w.tape
  output : w'.output = w.output
  size : w.heap.size ≤ w'.heap.size
  block : ∀ k, k < w.heap.size → ¬ S k → w'.heap[k]? = w.heap[k]?
  fro : ∀ a, w'.frozen? a = w.frozen? a

/-- Nothing old has turned. -/
abbrev Kin (w w' : World) : Prop := Ch (fun _ => False) w w'
/-- Block b alone may have turned. -/
abbrev One (b : Nat) (w w' : World) : Prop := Ch (fun k => k = b) w w'

theorem Ch.refl (S : Nat → Prop) (w : World) : Ch S w w := ⟨rfl, rfl, rfl, Nat.le_refl _, fun _ _ _ => rfl, fun _ => rfl⟩
theorem Ch.trans {S : Nat → Prop} {a b c : World} (h : Ch S a b) (k : Ch S b c) : Ch S a c :=
  ⟨k.os.trans h.os, k.tape.trans h.tape, k.output.trans h.output, Nat.le_trans h.size k.size,
    fun i hi hs => (k.block i (Nat.lt_of_lt_of_le hi h.size) hs).trans (h.block i hi hs), fun x => (k.fro x).trans (h.fro x)⟩
theorem Ch.mono {S T : Nat → Prop} {a b : World} (h : Ch S a b) (hst : ∀ k, k < a.heap.size → S k → T k) : Ch T a b :=
  ⟨h.os, h.tape, h.output, h.size, fun i hi hn => h.block i hi (fun hs => hn (hst i hi hs)), h.fro⟩
/-- What turns only blocks that the first world did not have turns nothing old. -/
theorem Ch.then {S T : Nat → Prop} {a b c : World} (h : Ch S a b) (k : Ch T b c) (hT : ∀ i, i < a.heap.size → T i → S i) : Ch S a c :=
  ⟨k.os.trans h.os, k.tape.trans h.tape, k.output.trans h.output, Nat.le_trans h.size k.size,
    fun i hi hs => (k.block i (Nat.lt_of_lt_of_le hi h.size) (fun ht => hs (hT i hi ht))).trans (h.block i hi hs), fun x => (k.fro x).trans (h.fro x)⟩
theorem Ch.kin {S : Nat → Prop} {a b c : World} (h : Ch S a b) (k : Kin b c) : Ch S a c := h.then k (fun _ _ f => f.elim)
theorem Ch.any {S : Nat → Prop} {a b : World} (h : Kin a b) : Ch S a b := h.mono (fun _ _ f => f.elim)
theorem Ch.one {a b c : World} {B : Nat} (h : Kin a b) (k : One B b c) (hB : a.heap.size ≤ B) : Kin a c :=
  h.then k (fun i hi e => absurd e (by omega))
theorem Ch.alloc {S : Nat → Prop} {a w : World} (h : Ch S a w) (c : Array Value) (t : TypeId) : Ch S a (w.alloc (.cells c t)) :=
  h.trans ⟨rfl, rfl, rfl, by simp, fun k hk _ => Below.heap_alloc _ _ _ hk, fun x => frozen?_alloc_cells _ _ _ x⟩
theorem Ch.drew {S : Nat → Prop} {a w : World} (h : Ch S a w) : Ch S a w.drew := ⟨h.os, h.tape, h.output, h.size, h.block, h.fro⟩
theorem Ch.drewN {S : Nat → Prop} {a w : World} (h : Ch S a w) (n : Nat) : Ch S a (w.drewN n) := ⟨h.os, h.tape, h.output, h.size, h.block, h.fro⟩
theorem Ch.setCell {S : Nat → Prop} {a w : World} (h : Ch S a w) {p : Addr} (hp : p.block < a.heap.size → S p.block) (v : Value) : Ch S a (w.setCell p v) := by
  refine ⟨h.os, h.tape, h.output, by simpa [World.setCell] using h.size, fun k hk hs => ?_, fun x => (World.frozen?_setCell _ _ _ _).trans (h.fro x)⟩
  rw [Below.heap_setCell _ _ _ _ (fun e => hs (by subst e; exact hp hk))]
  exact h.block k hk hs
theorem One.set1 (b i : Nat) (v : Value) (w : World) : One b w (w.setCell ⟨b, i, none⟩ v) := Ch.setCell (S := fun k => k = b) (Ch.refl _ w) (p := ⟨b, i, none⟩) (fun _ => rfl) v
theorem One.set2 (b i j : Nat) (v u : Value) (w : World) : One b w ((w.setCell ⟨b, i, none⟩ v).setCell ⟨b, j, none⟩ u) := (One.set1 b i v w).trans (One.set1 b j u _)
theorem Ch.below {w w' : World} (h : Kin w w') : Below w.heap.size w w' := ⟨h.os, h.tape, h.output, h.size, fun k hk => h.block k hk (fun f => f)⟩
theorem Ch.grown {w w' : World} (h : Kin w w') : Grown w w' := ⟨h.below.frame _, h.fro, h.size⟩

/-- A block that is known whole, and may be written. -/
def Blk (w : World) (b : Nat) (cs : Array Value) (t : TypeId) : Prop := w.heap[b]? = some (.cells cs t (0, 0))

theorem Blk.lt {w : World} {b : Nat} {cs : Array Value} {t : TypeId} (h : Blk w b cs t) : b < w.heap.size := lt_of_block h
theorem Blk.cell {w : World} {b : Nat} {cs : Array Value} {t : TypeId} (h : Blk w b cs t) (i : Nat) : w.cell? ⟨b, i, none⟩ = cs[i]? := by
  unfold Blk at h
  simp [World.cell?, h]
theorem Blk.free {w : World} {b : Nat} {cs : Array Value} {t : TypeId} (h : Blk w b cs t) (i : Nat) : w.frozen? ⟨b, i, none⟩ = false := by
  unfold Blk at h
  simp [World.frozen?, h]
theorem Blk.new (w : World) (cs : Array Value) (t : TypeId) : Blk (w.alloc (.cells cs t)) w.heap.size cs t := by
  show (w.heap.push _)[w.heap.size]? = _
  simp
theorem Blk.keep {S : Nat → Prop} {w w' : World} {b : Nat} {cs : Array Value} {t : TypeId} (h : Blk w b cs t) (k : Ch S w w') (hb : ¬ S b) : Blk w' b cs t :=
  (k.block b h.lt hb).trans h
theorem Blk.set {w : World} {b : Nat} {cs : Array Value} {t : TypeId} (h : Blk w b cs t) (i : Nat) (v : Value) : Blk (w.setCell ⟨b, i, none⟩ v) b (cs.setIfInBounds i v) t := by
  have hlt := h.lt
  unfold Blk at *
  have h' : w.heap[b] = .cells cs t (0, 0) := by simpa [Array.getElem?_eq_getElem hlt] using h
  show (w.heap.modify b _)[b]? = _
  rw [Array.getElem?_eq_getElem (by simpa using hlt), Array.getElem_modify_self, h']
  rfl
theorem Blk.set_other {w : World} {b c : Nat} {cs : Array Value} {t : TypeId} (h : Blk w b cs t) (i : Nat) (v : Value) (hne : b ≠ c) : Blk (w.setCell ⟨c, i, none⟩ v) b cs t := by
  unfold Blk at *
  rw [Below.heap_setCell _ _ _ _ hne]
  exact h
theorem Blk.alloc {w : World} {b : Nat} {cs : Array Value} {t : TypeId} (h : Blk w b cs t) (o : Obj) : Blk (w.alloc o) b cs t := by
  have := h.lt
  unfold Blk at *
  rw [Below.heap_alloc _ _ _ this]
  exact h
end Go.Proofs.YtfnajddkaapejaaDoor
