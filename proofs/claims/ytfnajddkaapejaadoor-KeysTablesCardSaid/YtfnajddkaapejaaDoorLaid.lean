/-
  What the rows' condition on 'tempo/keys.rights' gives the walks; that the program's own start meets it.
-/
import Derived.Test.YtfnajddkaapejaaDoorKeysA
import Derived.Test.YtfnajddkaapejaaDoorRows
import Derived.ProofKit
import Derived.LaidMore
import Derived.OpenShut
import Derived.Stop.Joined
namespace Go.Proofs.YtfnajddkaapejaaDoor
open Go.ChangeShapes Go.WideShapes Go.ChangeAt Go.RowKit

theorem own : ownKnob Tryd.prog.godebug = none := by kernel_rfl
/-- What the rows list. -/
def laid1 : List (String × DataW Unit) := [("tempo/keys.rights", Rows.laid_tempo_keys_rights)]
theorem gRights : Tryd.prog.globalNamed "tempo/keys.rights" = some 0 := by kernel_rfl
theorem tRights : (Tryd.prog.globals[0]?).map (·.type) = some 57 := by kernel_rfl
theorem cInt : Tryd.prog.cellsOf 3 = 1 := by kernel_rfl
theorem cArr : Tryd.prog.cellsOf 57 = 9 := by kernel_rfl

/-- The door's own heap meets the condition: closed facts. -/
theorem door_met (os : Os) (args : Array Value) : laidMetH Tryd.prog laid1 ((World.doorLaid Tryd.prog 400 os).forCall (fun _ _ => 0) ⟨#[], args, []⟩).memory :=
  laidMetH_of_parts3 (fuel := 8) (laidMet_of_run' 8 (by kernel_rfl) (by kernel_rfl)) (by kernel_rfl) (by kernel_rfl)

theorem rights_of {W : World} (h : laidMetH Tryd.prog laid1 W) : Rights W := by
  rw [MakeChecks.laidMetH_plain _ _ _ (by kernel_rfl)] at h
  obtain ⟨ps, ⟨g0, t0, cs0, f0, p0, q0, hg0, ht0, hv0, hd0, _, _⟩, _, _⟩ := h
  obtain rfl := Option.some.inj (gRights.symm.trans hg0)
  obtain rfl := Option.some.inj (tRights.symm.trans ht0)
  obtain ⟨xs, m1, rfl, hx1, hlen, hn, hel⟩ := DataW.trod_array Tryd.underlying57 hd0
  rw [cArr] at hlen
  simp only [Prod.mk.injEq, Rows.laid_tempo_keys_rights, DataW.agg.injEq] at hx1
  intro i hi
  have hc := World.var?_cell hg0 hv0 i
  have h1 := hel i hi
  rw [cInt, Nat.mul_one] at h1
  have hxi : xs[i]? = some (xs[i]'(by omega)) := List.getElem?_eq_getElem (by omega)
  rw [hxi] at h1
  obtain ⟨k, e1, e2, _⟩ := DataW.trod_int Tryd.underlying3 h1
  have hd : (xs.map (·.1))[i]? = some (.lit (.int .i64 k)) := by
    rw [List.getElem?_map, hxi, e2]
    rfl
  rw [← hx1.1] at hd
  have hcell : cs0[i]? = some (.int .i64 k) := by
    have hl : i < cs0.toList.length := by omega
    have h2 : cs0.toList[i]? = some (cs0.toList[i]'hl) := List.getElem?_eq_getElem hl
    have h3 : (cs0.toList.drop i).take 1 = [cs0.toList[i]'hl] := by
      rw [List.drop_eq_getElem_cons hl]
      rfl
    rw [h3] at e1
    simp only [List.cons.injEq, and_true] at e1
    rw [e1] at h2
    simpa using h2
  have hk : k = rt i := by
    have hi2 : i = 0 ∨ i = 1 ∨ i = 2 ∨ i = 3 ∨ i = 4 ∨ i = 5 ∨ i = 6 ∨ i = 7 ∨ i = 8 := by omega
    rcases hi2 with rfl | rfl | rfl | rfl | rfl | rfl | rfl | rfl | rfl <;> (simp at hd; exact hd.symm)
  rw [hc, hcell, hk]
end Go.Proofs.YtfnajddkaapejaaDoor
