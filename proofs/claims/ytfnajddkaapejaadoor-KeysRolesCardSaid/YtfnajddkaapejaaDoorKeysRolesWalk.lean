/-
  The walk of KeysRoles.
-/
import Derived.Test.YtfnajddkaapejaaDoorRoles
namespace Go.Proofs.YtfnajddkaapejaaDoor
open Go.RowKit
set_option maxRecDepth 100000 in
set_option maxHeartbeats 4000000 in
theorem KeysRoles_walk (w : World) (hR : Rights w) :
    Calls Tryd.prog 8 #[] w fun e w' => e = .returned (.bool true) ∧ Grown w w' := by
  have R := Lib.hid hR
  clear hR
  go_enter Tryd.func8, Tryd.ntmps8
  go_wp2_with (refine wpList_value rfl (.pointer (some ⟨w.heap.size, 0, none⟩)) _ (exec_counts _ rfl _ _) ?_)
  have z : Cnt (w.alloc (.cells (nums .i64 781 fun _ => 0) 55)) w.heap.size (cA 1 0) := by
    rw [show cA 1 0 = fun _ => 0 from funext cA_start]
    exact Blk.new _ _ _
  have K0 : Kin w (w.alloc (.cells (nums .i64 781 fun _ => 0) 55)) := (Ch.refl _ _).alloc _ _
  go_loopw [2] (fun pv wr => ∃ p : Nat, 1 ≤ p ∧ p ≤ 13 ∧ pv = .int .i64 p ∧ Cnt wr w.heap.size (cA p 0) ∧ Kin w wr) (fun pv _ => 13 - (intOf pv).toNat)
  case atStart => exact ⟨1, by omega, by omega, rfl, z, K0⟩
  case round =>
    clear z K0
    obtain ⟨p, hp1, hp2, rfl, z, K⟩ := hrel
    by_cases hlt : p < 13
    · obtain ⟨wo, rfl⟩ : ∃ wo : World, wo = wr := ⟨_, rfl⟩
      have hp3 : (p : Int) ≤ 12 := by omega
      go_wp2_with fail
      go_loopw [3] (fun qv wr => ∃ q : Nat, q ≤ 64 ∧ qv = .int .i64 q ∧ Cnt wr w.heap.size (cA p q) ∧ Kin w wr) (fun qv _ => 64 - (intOf qv).toNat)
      case atStart => exact ⟨0, by omega, rfl, z, K⟩
      case round =>
        clear z K
        obtain ⟨q, hq, rfl, z, K⟩ := hrel
        by_cases hlq : q < 64
        · obtain ⟨j, hj, hj2, hj3, hj4⟩ := piece_index p q hp1 (by omega) hlq
          have c0 := Cnt.at z j (by omega)
          have c1 := Blk.free z j
          rw [cA_old p q j hj3 hj4] at c0
          have S := Lib.hid (cA_step p q j hj2 hj3 hj4)
          have Z := Lib.hid z
          clear z hj3 hj4
          go_wp2_with fail
          refine (piece_at _ _ _ (by omega) (by omega) (by omega) (by omega)).mono ?_
          rintro e w1 ⟨rfl, rfl⟩
          rw [hj]
          have hj5 : (j : Int) ≤ 767 := by omega
          go_wp2_with fail
          go_roundw
          case rel =>
            refine ⟨q + 1, by omega, by go_num, ?_, K.one (One.set1 w.heap.size j _ _) (Nat.le_refl _)⟩
            have h := Cnt.put Z.out j 1
            rw [S.out] at h
            exact h
          case measure => simp [intOf]; omega
        · have : q = 64 := by omega
          subst this
          rw [cA_next] at z
          go_wp2_with fail
          go_roundw
          case rel => exact ⟨p + 1, by omega, by omega, by go_num, z, K⟩
          case measure => simp [intOf]; omega
    · have : p = 13 := by omega
      subst this
      rw [show ((13 : Nat) : Int) = (13 : Int) from rfl]
      rw [cB_start] at z
      go_wp2_with fail
      go_loopw [6] (fun kv wr => ∃ k : Nat, k ≤ 17 ∧ kv = .int .i64 k ∧ Cnt wr w.heap.size (cB k) ∧ Kin w wr) (fun kv _ => 17 - (intOf kv).toNat)
      case atStart => exact ⟨0, by omega, rfl, z, K⟩
      case round =>
        clear z K
        obtain ⟨k, hk, rfl, z, K⟩ := hrel
        by_cases hlt : k < 17
        · have hk2 : (k : Int) ≤ 16 := by omega
          by_cases hin : k = 1 ∨ k = 2 ∨ k = 4 ∨ k = 8
          · obtain ⟨j, hj, he, hj1, hj2, ho, hs⟩ := right_index k hin
            have c0 := Cnt.at z j (by omega)
            have c1 := Blk.free z j
            rw [ho] at c0
            have S := Lib.hid hs
            have Z := Lib.hid z
            have HI := Lib.hid hin
            have HJ := Lib.hid hj
            have HE := Lib.hid he
            clear z ho hs hin hj he
            go_wp2_with fail
            refine (castle_any _ _ (R.out.keep K)).mono ?_
            rintro e w1 ⟨rfl, rfl⟩
            rw [HJ.out, HE.out]
            have hj5 : (j : Int) ≤ 771 := by omega
            have hj6 : (768 : Int) ≤ (j : Int) := by omega
            go_wp2_with fail
            go_roundw
            case rel =>
              refine ⟨k + 1, by omega, by go_num, ?_, K.one (One.set1 w.heap.size j _ _) (Nat.le_refl _)⟩
              have h := Cnt.put Z.out j 1
              rw [S.out] at h
              exact h
            case measure => simp [intOf]; omega
          · have n1 : ((k : Int) == 1) = false := beq_eq_false_iff_ne.2 (by omega)
            have n2 : ((k : Int) == 2) = false := beq_eq_false_iff_ne.2 (by omega)
            have n4 : ((k : Int) == 4) = false := beq_eq_false_iff_ne.2 (by omega)
            have n8 : ((k : Int) == 8) = false := beq_eq_false_iff_ne.2 (by omega)
            have HE := Lib.hid (show castleE (k : Int) = 3 from by unfold castleE; rw [if_neg (by omega)])
            have Z := Lib.hid (cB_skip k hin)
            clear hin
            go_wp2_with fail
            refine (castle_any _ _ (R.out.keep K)).mono ?_
            rintro e w1 ⟨rfl, rfl⟩
            rw [HE.out]
            go_wp2_with fail
            go_roundw
            case rel => exact ⟨k + 1, by omega, by go_num, by rw [Z.out]; exact z, K⟩
            case measure => simp [intOf]; omega
        · have : k = 17 := by omega
          subst this
          rw [show ((17 : Nat) : Int) = (17 : Int) from rfl]
          rw [cC_start] at z
          go_wp2_with fail
          go_loopw [9] (fun qv wr => ∃ q : Nat, q ≤ 8 ∧ qv = .int .i64 q ∧ Cnt wr w.heap.size (cC q) ∧ Kin w wr) (fun qv _ => 8 - (intOf qv).toNat)
          case atStart => exact ⟨0, by omega, rfl, z, K⟩
          case round =>
            clear z K
            obtain ⟨q, hq, rfl, z, K⟩ := hrel
            by_cases hlq : q < 8
            · have c0 := Cnt.at z (772 + q) (by omega)
              have c1 := Blk.free z (772 + q)
              rw [cC_old] at c0
              have S := Lib.hid (cC_step q)
              have Z := Lib.hid z
              clear z
              go_wp2_with fail
              refine (file_at _ _ (by omega) (by omega)).mono ?_
              rintro e w1 ⟨rfl, rfl⟩
              go_wp2_with fail
              go_roundw
              case rel =>
                refine ⟨q + 1, by omega, by go_num, ?_, K.one (One.set1 w.heap.size (772 + q) _ _) (Nat.le_refl _)⟩
                have h := Cnt.put Z.out (772 + q) 1
                rw [S.out] at h
                exact h
              case measure => simp [intOf]; omega
            · have : q = 8 := by omega
              subst this
              rw [show ((8 : Nat) : Int) = (8 : Int) from rfl]
              have c0 := Cnt.at z 780 (by omega)
              have c1 := Blk.free z 780
              rw [cC_old 8] at c0
              have h1 := Cnt.put z 780 1
              rw [cC_step 8] at h1
              have K1 := K.one (One.set1 w.heap.size 780 (.int .i64 1) _) (Nat.le_refl _)
              have Z := Lib.hid h1
              clear z h1
              go_wp2_with fail
              refine (turn_any _).mono ?_
              rintro e w1 ⟨rfl, rfl⟩
              go_wp2_with fail
              go_loopw [12] (fun iv wr => ∃ i : Nat, i ≤ 781 ∧ iv = .int .i64 i ∧ Cnt wr w.heap.size (cC 9) ∧ Kin w wr) (fun iv _ => 781 - (intOf iv).toNat)
              case atStart => exact ⟨0, by omega, rfl, Z.out, K1⟩
              case round =>
                clear Z K c0 c1 K1
                obtain ⟨i, hi, rfl, z, K⟩ := hrel
                by_cases hli : i < 781
                · have c0 := Cnt.at z i hli
                  rw [cC_one i hli] at c0
                  have hli2 : (i : Int) < 781 := by omega
                  go_wp2_with fail
                  go_roundw
                  case rel => exact ⟨i + 1, by omega, by go_num, z, K⟩
                  case measure => simp [intOf]; omega
                · have : i = 781 := by omega
                  subst this
                  go_wp2_with fail
                  refine (turn_any _).mono ?_
                  rintro e w1 ⟨rfl, rfl⟩
                  go_wp2_with fail
                  refine (works_any _ (R.out.keep K)).mono ?_
                  rintro e w2 ⟨rfl, k2⟩
                  go_wp2_with fail
                  go_ret
                  exact ⟨rfl, (K.kin k2).grown⟩
end Go.Proofs.YtfnajddkaapejaaDoor
