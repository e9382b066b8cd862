/-
  The walk of keys.Same.
-/
import Derived.Test.YtfnajddkaapejaaDoorKeysA
namespace Go.Proofs.YtfnajddkaapejaaDoor
open Go.RowKit

set_option maxHeartbeats 1000000 in
theorem same_left {w : World} {p q : Option Addr} (h : Val w p false) :
    Calls Tryd.prog 17 #[.pointer p, .pointer q] w fun e w' => e = .returned (.bool false) ∧ Kin w w' := by
  have H := Lib.hid h
  clear h
  go_enter Tryd.func17, Tryd.ntmps17
  go_wp2_with fail
  go_quiet ((go_at_call 28; exact tvalid_quiet H.out _))
  go_wp2_with fail
  go_ret
  exact ⟨rfl, (Ch.refl _ _).drewN _⟩
set_option maxHeartbeats 1000000 in
theorem same_right {w : World} {p q : Option Addr} (h : Val w p true) (k : Val w q false) :
    Calls Tryd.prog 17 #[.pointer p, .pointer q] w fun e w' => e = .returned (.bool false) ∧ Kin w w' := by
  have H := Lib.hid h
  have K := Lib.hid k
  clear h k
  go_enter Tryd.func17, Tryd.ntmps17
  go_wp2_with fail
  go_quiet ((go_at_call 28; first | (with_reducible exact tvalid_quiet H.out _) | (with_reducible exact tvalid_quiet K.out _)))
  go_wp2_with fail
  go_ret
  exact ⟨rfl, (Ch.refl _ _).drewN _⟩
set_option maxHeartbeats 1000000 in
theorem same_tabs {w : World} {b c : Nat} {f g : Nat → Int} (h : Tab w b true f) (k : Tab w c true g) :
    Calls Tryd.prog 17 #[.pointer (some ⟨b, 0, none⟩), .pointer (some ⟨c, 0, none⟩)] w fun e w' => e = .returned (.bool (allEq f g 781)) ∧ Kin w w' := by
  have H := Lib.hid (Val.tab h)
  have K := Lib.hid (Val.tab k)
  have he : ∀ w : World, (binOp .eql 51 (.agg (nums .u64 781 f)) (.agg (nums .u64 781 g))).run Tryd.prog w = .ok (.bool (allEq f g 781)) w := by
    obtain ⟨i, hi, hs⟩ : ∃ i, Tryd.prog.info? 27 = some i ∧ i.size = 1 := by
      have h : (Tryd.prog.info? 27).map (·.size) = some 1 := by kernel_rfl
      cases hq : Tryd.prog.info? 27 with
      | none => simp [hq] at h
      | some i => exact ⟨i, rfl, by simpa [hq] using h⟩
    exact fun w => run_eql_nums w 781 Tryd.underlying51 Tryd.underlying27 hi hs f g
  go_enter Tryd.func17, Tryd.ntmps17
  go_wp2_with fail
  refine wp_region_quiet_lit (by kernel_rfl) (by kernel_rfl) ?_
  repeat (first
    | (refine quiet_value (.agg (nums .u64 781 f)) rfl (fun w' hw' => by obtain ⟨n, rfl⟩ := hw'; exact exec_keys h _ _ rfl _ rfl n) ?_; simp only [Act.put, List.setIfInBounds_toArray, List.set_cons_succ, List.set_cons_zero])
    | (refine quiet_value (.agg (nums .u64 781 g)) rfl (fun w' hw' => by obtain ⟨n, rfl⟩ := hw'; exact exec_keys k _ _ rfl _ rfl n) ?_; simp only [Act.put, List.setIfInBounds_toArray, List.set_cons_succ, List.set_cons_zero])
    | (go_big_quiet_step ((go_at_call 28; first | (with_reducible exact tvalid_quiet H.out _) | (with_reducible exact tvalid_quiet K.out _)))))
  refine wpQuiet_nil ?_
  intro _ hw'
  obtain ⟨nq, rfl⟩ := hw'
  go_wp2_with fail
  go_ret
  exact ⟨rfl, (Ch.refl _ _).drewN _⟩
end Go.Proofs.YtfnajddkaapejaaDoor
