/-
  The walks of package keys, but Of: valid, Key, Piece, Castle, EnPassant, Turn, Same.
-/
import Derived.Test.YtfnajddkaapejaaDoorZero
import Derived.Deep.RegionWith
namespace Go.Proofs.YtfnajddkaapejaaDoor
open Go.RowKit

set_option maxHeartbeats 400000 in
theorem tvalid_at (b : Nat) (x : Bool) (w : World) (h : w.cell? ⟨b, 0, none⟩ = some (.bool x)) :
    Calls Tryd.prog 28 #[.pointer (some ⟨b, 0, none⟩)] w fun e w' => e = .returned (.bool x) ∧ w = w' := by
  go_enter Tryd.func28, Tryd.ntmps28
  go_wp2
  go_ret
  exact ⟨rfl, rfl⟩
set_option maxHeartbeats 400000 in
theorem tvalid_nil (w : World) :
    Calls Tryd.prog 28 #[.pointer none] w fun e w' => e = .returned (.bool false) ∧ w = w' := by
  go_enter Tryd.func28, Tryd.ntmps28
  go_wp2
  go_ret
  exact ⟨rfl, rfl⟩

/-- A pointer to a table: nil, or to one whose mark is x. -/
def Val (w : World) (p : Option Addr) (x : Bool) : Prop := (p = none ∧ x = false) ∨ ∃ b, p = some ⟨b, 0, none⟩ ∧ w.cell? ⟨b, 0, none⟩ = some (.bool x)
theorem Val.nil (w : World) : Val w none false := .inl ⟨rfl, rfl⟩
theorem Val.tab {w : World} {b : Nat} {x : Bool} {f : Nat → Int} (h : Tab w b x f) : Val w (some ⟨b, 0, none⟩) x := .inr ⟨b, rfl, h.mark⟩
theorem tvalid_any {w : World} {p : Option Addr} {x : Bool} (h : Val w p x) :
    Calls Tryd.prog 28 #[.pointer p] w fun e w' => e = .returned (.bool x) ∧ w = w' := by
  rcases h with ⟨rfl, rfl⟩ | ⟨b, rfl, h⟩
  · exact tvalid_nil w
  · exact tvalid_at b x w h
theorem tvalid_quiet {w : World} {p : Option Addr} {x : Bool} (h : Val w p x) (n : Nat) :
    Calls Tryd.prog 28 #[.pointer p] (w.drewN n) fun e w' => e = .returned (.bool x) ∧ ∃ m, w' = w.drewN m :=
  (tvalid_any (w := w.drewN n) h).mono fun _ _ ⟨he, hw⟩ => ⟨he, n, hw.symm⟩

/-! ### Key. -/
set_option maxHeartbeats 400000 in
theorem key_bad {w : World} {p : Option Addr} (h : Val w p false) (i : Int) :
    Calls Tryd.prog 11 #[.pointer p, .int .i64 i] w fun e w' => e = .returned (.tuple #[.int .u64 0, .int .i64 1]) ∧ w = w' := by
  have H := Lib.hid h
  clear h
  go_enter Tryd.func11, Tryd.ntmps11
  go_wp2_with fail
  refine (tvalid_any H.out).mono ?_
  rintro e w1 ⟨rfl, rfl⟩
  go_wp2_with fail
  go_ret2
  exact ⟨rfl, rfl⟩
set_option maxRecDepth 100000 in
set_option maxHeartbeats 400000 in
theorem key_at {w : World} {b : Nat} {f : Nat → Int} (h : Tab w b true f) (i : Nat) (hi : i < 781) :
    Calls Tryd.prog 11 #[.pointer (some ⟨b, 0, none⟩), .int .i64 (i : Int)] w fun e w' => e = .returned (.tuple #[.int .u64 (f i), .int .i64 0]) ∧ w = w' := by
  have c := h.key i hi
  have hv := Val.tab h
  have H := Lib.hid hv
  have hlt : (i : Int) < 781 := by omega
  clear h hv
  go_enter Tryd.func11, Tryd.ntmps11
  go_wp2_with fail
  refine (tvalid_any H.out).mono ?_
  rintro e w1 ⟨rfl, rfl⟩
  go_wp2_with fail
  go_ret2
  exact ⟨rfl, rfl⟩
set_option maxHeartbeats 400000 in
theorem key_out {w : World} {b : Nat} {f : Nat → Int} (h : Tab w b true f) (i : Int) (hi : i < 0 ∨ 781 ≤ i) :
    Calls Tryd.prog 11 #[.pointer (some ⟨b, 0, none⟩), .int .i64 i] w fun e w' => e = .returned (.tuple #[.int .u64 0, .int .i64 3]) ∧ w = w' := by
  have hv := Val.tab h
  have H := Lib.hid hv
  clear h hv
  rcases hi with hi | hi
  · go_enter Tryd.func11, Tryd.ntmps11
    go_wp2_with fail
    refine (tvalid_any H.out).mono ?_
    rintro e w1 ⟨rfl, rfl⟩
    go_wp2_with fail
    go_ret2
    exact ⟨rfl, rfl⟩
  · have h0 : 0 ≤ i := by omega
    go_enter Tryd.func11, Tryd.ntmps11
    go_wp2_with fail
    refine (tvalid_any H.out).mono ?_
    rintro e w1 ⟨rfl, rfl⟩
    go_wp2_with fail
    go_ret2
    exact ⟨rfl, rfl⟩

/-! ### Piece, EnPassant, Turn. -/
def pieceI (p q : Int) : Int := 64 * (2 * ((p - 1) % 6) + 1 - (p - 1) / 6) + q
set_option maxHeartbeats 400000 in
theorem piece_at (p q : Int) (w : World) (h1 : 1 ≤ p) (h2 : p ≤ 12) (h3 : 0 ≤ q) (h4 : q < 64) :
    Calls Tryd.prog 12 #[.int .i64 p, .int .i64 q] w fun e w' => e = .returned (.tuple #[.int .i64 (pieceI p q), .int .i64 0]) ∧ w = w' := by
  go_enter Tryd.func12, Tryd.ntmps12
  go_wp2
  go_ret2
  exact ⟨rfl, rfl⟩
set_option maxHeartbeats 400000 in
theorem piece_out (p q : Int) (w : World) (h : p < 1 ∨ 12 < p ∨ q < 0 ∨ 63 < q) :
    Calls Tryd.prog 12 #[.int .i64 p, .int .i64 q] w fun e w' => e = .returned (.tuple #[.int .i64 0, .int .i64 3]) ∧ w = w' := by
  by_cases h1 : p < 1
  · clear h
    go_enter Tryd.func12, Tryd.ntmps12
    go_wp2
    go_ret2
    exact ⟨rfl, rfl⟩
  · by_cases h2 : 12 < p
    · clear h
      go_enter Tryd.func12, Tryd.ntmps12
      go_wp2
      go_ret2
      exact ⟨rfl, rfl⟩
    · by_cases h3 : q < 0
      · clear h
        go_enter Tryd.func12, Tryd.ntmps12
        go_wp2
        go_ret2
        exact ⟨rfl, rfl⟩
      · have h4 : 64 ≤ q := by omega
        clear h
        go_enter Tryd.func12, Tryd.ntmps12
        go_wp2
        go_ret2
        exact ⟨rfl, rfl⟩
set_option maxHeartbeats 400000 in
theorem file_at (q : Int) (w : World) (h3 : 0 ≤ q) (h4 : q < 8) :
    Calls Tryd.prog 14 #[.int .i64 q] w fun e w' => e = .returned (.tuple #[.int .i64 (772 + q), .int .i64 0]) ∧ w = w' := by
  go_enter Tryd.func14, Tryd.ntmps14
  go_wp2
  go_ret2
  exact ⟨rfl, rfl⟩
set_option maxHeartbeats 400000 in
theorem file_out (q : Int) (w : World) (h : q < 0 ∨ 8 ≤ q) :
    Calls Tryd.prog 14 #[.int .i64 q] w fun e w' => e = .returned (.tuple #[.int .i64 0, .int .i64 3]) ∧ w = w' := by
  rcases h with h | h
  · go_enter Tryd.func14, Tryd.ntmps14
    go_wp2
    go_ret2
    exact ⟨rfl, rfl⟩
  · have h0 : 0 ≤ q := by omega
    go_enter Tryd.func14, Tryd.ntmps14
    go_wp2
    go_ret2
    exact ⟨rfl, rfl⟩
set_option maxHeartbeats 400000 in
theorem turn_any (w : World) :
    Calls Tryd.prog 26 #[] w fun e w' => e = .returned (.int .i64 780) ∧ w = w' := by
  go_enter Tryd.func26, Tryd.ntmps26
  go_wp2
  go_ret
  exact ⟨rfl, rfl⟩

/-! ### Castle: the table of the rights, a variable of the package. -/
def rt (i : Nat) : Int := [0, 1, 2, 0, 3, 0, 0, 0, 4].getD i 0
/-- The variable holds what the program's text lays. -/
def Rights (w : World) : Prop := ∀ i, i < 9 → w.cell? ⟨0, i, none⟩ = some (.int .i64 (rt i))
theorem Rights.keep {w w' : World} (h : Rights w) (k : Kin w w') : Rights w' := fun i hi => by
  have h0 := h i hi
  have hb := World.block_lt_of_cell? _ _ h0
  exact (k.below.cell (p := ⟨0, i, none⟩) hb).trans h0
def castleV (r : Int) : Int := if r = 1 then 768 else if r = 2 then 769 else if r = 4 then 770 else if r = 8 then 771 else 0
def castleE (r : Int) : Int := if r = 1 ∨ r = 2 ∨ r = 4 ∨ r = 8 then 0 else 3
set_option maxHeartbeats 1000000 in
theorem castle_any (r : Int) (w : World) (h : Rights w) :
    Calls Tryd.prog 13 #[.int .i64 r] w fun e w' => e = .returned (.tuple #[.int .i64 (castleV r), .int .i64 (castleE r)]) ∧ w = w' := by
  by_cases h1 : r < 0
  · rw [show castleV r = 0 from by unfold castleV; repeat rw [if_neg (by omega)], show castleE r = 3 from by unfold castleE; rw [if_neg (by omega)]]
    clear h
    go_enter Tryd.func13, Tryd.ntmps13
    go_wp2
    go_ret2
    exact ⟨rfl, rfl⟩
  · by_cases h2 : 9 ≤ r
    · rw [show castleV r = 0 from by unfold castleV; repeat rw [if_neg (by omega)], show castleE r = 3 from by unfold castleE; rw [if_neg (by omega)]]
      clear h
      go_enter Tryd.func13, Tryd.ntmps13
      go_wp2
      go_ret2
      exact ⟨rfl, rfl⟩
    · have hr : r = 0 ∨ r = 1 ∨ r = 2 ∨ r = 3 ∨ r = 4 ∨ r = 5 ∨ r = 6 ∨ r = 7 ∨ r = 8 := by omega
      clear h1 h2
      rcases hr with rfl | rfl | rfl | rfl | rfl | rfl | rfl | rfl | rfl
      · have c := h 0 (by decide)
        simp [rt] at c
        clear h
        go_enter Tryd.func13, Tryd.ntmps13
        go_wp2
        go_ret2
        exact ⟨rfl, rfl⟩
      · have c := h 1 (by decide)
        simp [rt] at c
        clear h
        go_enter Tryd.func13, Tryd.ntmps13
        go_wp2
        go_ret2
        exact ⟨rfl, rfl⟩
      · have c := h 2 (by decide)
        simp [rt] at c
        clear h
        go_enter Tryd.func13, Tryd.ntmps13
        go_wp2
        go_ret2
        exact ⟨rfl, rfl⟩
      · have c := h 3 (by decide)
        simp [rt] at c
        clear h
        go_enter Tryd.func13, Tryd.ntmps13
        go_wp2
        go_ret2
        exact ⟨rfl, rfl⟩
      · have c := h 4 (by decide)
        simp [rt] at c
        clear h
        go_enter Tryd.func13, Tryd.ntmps13
        go_wp2
        go_ret2
        exact ⟨rfl, rfl⟩
      · have c := h 5 (by decide)
        simp [rt] at c
        clear h
        go_enter Tryd.func13, Tryd.ntmps13
        go_wp2
        go_ret2
        exact ⟨rfl, rfl⟩
      · have c := h 6 (by decide)
        simp [rt] at c
        clear h
        go_enter Tryd.func13, Tryd.ntmps13
        go_wp2
        go_ret2
        exact ⟨rfl, rfl⟩
      · have c := h 7 (by decide)
        simp [rt] at c
        clear h
        go_enter Tryd.func13, Tryd.ntmps13
        go_wp2
        go_ret2
        exact ⟨rfl, rfl⟩
      · have c := h 8 (by decide)
        simp [rt] at c
        clear h
        go_enter Tryd.func13, Tryd.ntmps13
        go_wp2
        go_ret2
        exact ⟨rfl, rfl⟩

/-! ### Same. -/
theorem quiet_value {P : Program} {ops : Array Oper} {C : World → Prop} {Q : Act → Prop} {a : Act} {o : Oper} {rest : List Oper} (v : Value) (hw : Region.wanted o (yielded ops a.tmps) = true)
    (hrun : ∀ w, C w → (execOp a.eval o).run P w = .ok (.value v) w) (h : wpQuiet P ops C Q rest (a.put o.dst v)) : wpQuiet P ops C Q (o :: rest) a :=
  BigFrame.wpQuiet_want hw fun _ hK => ⟨v, fun w hC => by unfold Oper.quietAt; rw [hrun w hC]; exact ⟨rfl, rfl⟩, hK _ h⟩
theorem arrT : (Tryd.prog.info? 51).map (·.size) = some 781 := by kernel_rfl
theorem exec_keys {w : World} {b : Nat} {made : Bool} {f : Nat → Int} (h : Tab w b made f) (o : Oper) (x : Operand) (ho : o.op = .load 51 x) (a : Act) (hx : a.eval x = .pointer (some ⟨b, 1, none⟩)) (n : Nat) :
    (execOp a.eval o).run Tryd.prog (w.drewN n) = .ok (.value (.agg (nums .u64 781 f))) (w.drewN n) := by
  obtain ⟨i, hi, hs⟩ : ∃ i, Tryd.prog.info? 51 = some i ∧ i.size = 781 := by
    have h := arrT
    cases hq : Tryd.prog.info? 51 with
    | none => simp [hq] at h
    | some i => exact ⟨i, rfl, by simpa [hq] using h⟩
  have hr := run_load_nums (P := Tryd.prog) (w.drewN n) b 1 781 f Tryd.underlying51 hi hs (fun j hj => h.key j hj)
  simp only [execOp, ho, hx, Instr.loadAt, Instr.sureAddr, Sem.run_bind, Sem.run_pure, Result.andThen_ok, hr]
end Go.Proofs.YtfnajddkaapejaaDoor
