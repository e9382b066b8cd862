/-
  The walk of KeysNil.
-/
import Derived.Test.YtfnajddkaapejaaDoorKWorks
namespace Go.Proofs.YtfnajddkaapejaaDoor
open Go.RowKit
theorem wpList_value_g {P : Program} {ops : Array Oper} {rest : List Oper} {o : Oper} {a : Act} {w : World} {Q : Exit → Act → World → Prop} (hw : Region.wanted o (yielded ops a.tmps) = true) (v : Value) (w' : World)
    (hrun : (execOp a.eval o).run P w = .ok (.value v) w') (h : wpList P ops Q rest (a.put o.dst v) w') : wpList P ops Q (o :: rest) a w :=
  wpList_step fun K hK => by
    rw [if_pos hw]
    unfold Oper.wp
    rw [hrun]
    exact hK _ _ h
set_option maxHeartbeats 2000000 in
theorem KeysNil_walk (a0 : Int) (_w0 : (Lit.int .i64 a0).wf = true) (w : World) (hR : Rights w) :
    Calls Tryd.prog 7 #[.int .i64 a0] w fun e w' => e = .returned (.bool true) ∧ Grown w w' := by
  clear _w0
  have R := Lib.hid hR
  clear hR
  go_enter Tryd.func7, Tryd.ntmps7
  go_wp2_with fail
  refine (ofStd _ _).mono ?_
  rintro e w1 ⟨t, rfl, ht, k1⟩
  go_wp2_with fail
  refine (key_bad (Val.nil _) _).mono ?_
  rintro e w2 ⟨rfl, rfl⟩
  go_wp2_with (refine wpList_value rfl (.agg (tabA false fun _ => 0)) _ (exec_none _ rfl _ _) ?_)
  have n2 := Blk.new w1 (tabA false fun _ => 0) 53
  have ht2 := ht.keep (Ch.alloc (Ch.refl (fun _ => False) w1) (tabA false fun _ => 0) 53) (fun f => f)
  have k2 := Ch.alloc k1 (tabA false fun _ => 0) 53
  clear ht k1
  refine (key_bad (Val.tab n2) _).mono ?_
  rintro e w3 ⟨rfl, rfl⟩
  clear n2
  go_wp2_with fail
  refine (same_left (Val.nil _)).mono ?_
  rintro e w3 ⟨rfl, k3⟩
  have ht3 := ht2.keep k3 (fun f => f)
  have K3 := k2.kin k3
  clear ht2 k2 k3
  go_wp2_with fail
  refine (same_right (Val.tab ht3) (Val.nil _)).mono ?_
  rintro e w4 ⟨rfl, k4⟩
  have ht4 := ht3.keep k4 (fun f => f)
  have K4 := K3.kin k4
  clear ht3 K3 k4
  go_wp2_with (refine wpList_value_g rfl (.agg (tabA false fun _ => 0)) _ (exec_none _ rfl _ _) ?_)
  have n5 := Blk.new w4 (tabA false fun _ => 0) 53
  have ht5 := ht4.keep (Ch.alloc (Ch.refl (fun _ => False) w4) (tabA false fun _ => 0) 53) (fun f => f)
  have K5 := Ch.alloc K4 (tabA false fun _ => 0) 53
  clear ht4 K4
  refine (same_left (Val.tab n5)).mono ?_
  rintro e w6 ⟨rfl, k6⟩
  have ht6 := ht5.keep k6 (fun f => f)
  have K6 := K5.kin k6
  clear n5 ht5 K5 k6
  go_wp2_with (refine wpList_value_g rfl (.agg (tabA false fun _ => 0)) _ (exec_none _ rfl _ _) ?_)
  have n7 := (Blk.new w6 (tabA false fun _ => 0) 53).alloc (.cells (tabA false fun _ => 0) 53)
  have ht7 := ht6.keep (Ch.alloc (Ch.alloc (Ch.refl (fun _ => False) w6) (tabA false fun _ => 0) 53) (tabA false fun _ => 0) 53) (fun f => f)
  have K7 := Ch.alloc (Ch.alloc K6 (tabA false fun _ => 0) 53) (tabA false fun _ => 0) 53
  clear ht6 K6
  refine (same_left (Val.tab n7)).mono ?_
  rintro e w8 ⟨rfl, k8⟩
  have ht8 := ht7.keep k8 (fun f => f)
  have K8 := K7.kin k8
  clear n7 ht7 K7 k8
  have e1 : allEq (keysOf std) (keysOf std) 781 = true := allEq_true fun _ _ => rfl
  go_wp2_with fail
  refine (same_tabs ht8 ht8).mono ?_
  rintro e w9 ⟨rfl, k9⟩
  have K9 := K8.kin k9
  go_wp2_with fail
  refine (works_any _ (R.out.keep K9)).mono ?_
  rintro e w10 ⟨rfl, k10⟩
  go_wp2_with fail
  go_ret
  exact ⟨rfl, (K9.kin k10).grown⟩
end Go.Proofs.YtfnajddkaapejaaDoor
