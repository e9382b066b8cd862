/-
  The walk of KeysTables: tables of any kinds, package keys' and the reference's.
-/
import Derived.Test.YtfnajddkaapejaaDoorRefTab
namespace Go.Proofs.YtfnajddkaapejaaDoor
open Go.RowKit

def kindOk (n : Int) : Bool := decide (n = 0 ∨ n = 1 ∨ n = 2)
def kindE (n : Int) : Int := if n = 0 ∨ n = 1 ∨ n = 2 then 0 else 2
def keysK (n : Int) (s : BitVec 64) : Nat → Int := if n = 1 then zeros else if n = 0 then keysOf std else keysOf (U s)
def PT (w : World) (p : Option Addr) (ok : Bool) (f : Nat → Int) : Prop := (ok = false ∧ p = none) ∨ (ok = true ∧ ∃ b, p = some ⟨b, 0, none⟩ ∧ Tab w b true f)
def RT (w : World) (p : Option Addr) (ok : Bool) (f : Nat → Int) : Prop := (ok = false ∧ p = none) ∨ (ok = true ∧ ∃ b, p = some ⟨b, 0, none⟩ ∧ RTab w b f)
theorem PT.low {w w' : World} {p : Option Addr} {ok : Bool} {f : Nat → Int} (h : PT w p ok f) (k : Below w.heap.size w w') : PT w' p ok f := by
  rcases h with h | ⟨h, b, e, t⟩
  · exact .inl h
  · exact .inr ⟨h, b, e, Blk.low t k⟩
theorem RT.low {w w' : World} {p : Option Addr} {ok : Bool} {f : Nat → Int} (h : RT w p ok f) (k : Below w.heap.size w w') : RT w' p ok f := by
  rcases h with h | ⟨h, b, e, t⟩
  · exact .inl h
  · exact .inr ⟨h, b, e, RTab.low t k⟩
theorem shapes {w w' : World} {p q : Option Addr} {ok : Bool} {f g : Nat → Int} (h : PT w p ok f) (k : RT w' q ok g) : (ok = false ∧ p = none ∧ q = none) ∨ (ok = true ∧ ∃ b c : Nat, p = some ⟨b, 0, none⟩ ∧ q = some ⟨c, 0, none⟩) := by
  rcases h with ⟨h, e⟩ | ⟨h, b, e, _⟩
  · rcases k with ⟨_, e2⟩ | ⟨k, _⟩
    · exact .inl ⟨h, e, e2⟩
    · rw [h] at k; cases k
  · rcases k with ⟨k, _⟩ | ⟨_, c, e2, _⟩
    · rw [h] at k; cases k
    · exact .inr ⟨h, b, c, e, e2⟩

theorem ofAny (n : Int) (s : BitVec 64) (w : World) :
    Calls Tryd.prog 10 #[.int .i64 n, .int .u64 (U s)] w fun e w' => ∃ p, e = .returned (.tuple #[.pointer p, .int .i64 (kindE n)]) ∧ PT w' p (kindOk n) (keysK n s) ∧ Below w.heap.size w w' := by
  by_cases h0 : n = 0
  · subst h0
    exact (ofStd (U s) w).mono fun _ _ ⟨b, he, ht, hk⟩ => ⟨_, he, .inr ⟨rfl, b, rfl, ht⟩, hk.below⟩
  · by_cases h1 : n = 1
    · subst h1
      exact (ofZero (U s) w).mono fun _ _ ⟨b, he, ht, hk⟩ => ⟨_, he, .inr ⟨rfl, b, rfl, ht⟩, hk.below⟩
    · by_cases h2 : n = 2
      · subst h2
        exact (ofSeed (U s) w).mono fun _ _ ⟨b, he, ht, hk⟩ => ⟨_, he, .inr ⟨rfl, b, rfl, ht⟩, hk.below⟩
      · have e1 : kindE n = 2 := by unfold kindE; rw [if_neg (by omega)]
        have e2 : kindOk n = false := by unfold kindOk; rw [decide_eq_false (by omega)]
        rw [e1, e2]
        exact (of_other n (U s) w h0 h1 h2).mono fun _ _ ⟨he, hk⟩ => ⟨_, he, .inl ⟨rfl, rfl⟩, hk.below⟩
theorem refOfAny (n : Int) (s : BitVec 64) (w : World) :
    Calls Tryd.prog 20 #[.int .i64 n, .int .u64 (U s)] w fun e w' => ∃ p, e = .returned (.tuple #[.pointer p, .int .i64 (kindE n)]) ∧ RT w' p (kindOk n) (keysK n s) ∧ Below w.heap.size w w' := by
  by_cases h0 : n = 0
  · subst h0
    exact (refOf_standard (U s) w).mono fun _ _ ⟨he, ht, hk⟩ => ⟨_, he, .inr ⟨rfl, _, rfl, ht⟩, hk⟩
  · by_cases h1 : n = 1
    · subst h1
      exact (refOf_zero (U s) w).mono fun _ _ ⟨he, ht, hk⟩ => ⟨_, he, .inr ⟨rfl, _, rfl, ht⟩, hk⟩
    · by_cases h2 : n = 2
      · subst h2
        exact (refOf_seeded s w).mono fun _ _ ⟨he, ht, hk⟩ => ⟨_, he, .inr ⟨rfl, _, rfl, ht⟩, hk⟩
      · have e1 : kindE n = 2 := by unfold kindE; rw [if_neg (by omega)]
        have e2 : kindOk n = false := by unfold kindOk; rw [decide_eq_false (by omega)]
        rw [e1, e2]
        exact (refOf_other n (U s) w h0 h1 h2).mono fun _ _ ⟨he, hw⟩ => ⟨_, he, .inl ⟨rfl, rfl⟩, hw ▸ Below.refl _ _⟩

def sameV (a b : Bool) (f g : Nat → Int) : Bool := a && b && allEq f g 781
theorem sameV_left (b : Bool) (f g : Nat → Int) : sameV false b f g = false := by simp [sameV]
theorem sameV_right (f g : Nat → Int) : sameV true false f g = false := by simp [sameV]
theorem sameV_both (f g : Nat → Int) : sameV true true f g = allEq f g 781 := by simp [sameV]
theorem sameAny {w : World} {p q : Option Addr} {a b : Bool} {f g : Nat → Int} (h : PT w p a f) (k : PT w q b g) :
    Calls Tryd.prog 17 #[.pointer p, .pointer q] w fun e w' => e = .returned (.bool (sameV a b f g)) ∧ Below w.heap.size w w' := by
  rcases h with ⟨rfl, rfl⟩ | ⟨rfl, x, rfl, h⟩
  · rw [sameV_left]
    exact (same_left (Val.nil w)).mono fun _ _ ⟨he, hk⟩ => ⟨he, hk.below⟩
  · rcases k with ⟨rfl, rfl⟩ | ⟨rfl, y, rfl, k⟩
    · rw [sameV_right]
      exact (same_right (Val.tab h) (Val.nil w)).mono fun _ _ ⟨he, hk⟩ => ⟨he, hk.below⟩
    · rw [sameV_both]
      exact (same_tabs h k).mono fun _ _ ⟨he, hk⟩ => ⟨he, hk.below⟩
theorem refSameAny {w : World} {p q : Option Addr} {a b : Bool} {f g : Nat → Int} (h : RT w p a f) (k : RT w q b g) :
    Calls Tryd.prog 21 #[.pointer p, .pointer q] w fun e w' => e = .returned (.bool (sameV a b f g)) ∧ Below w.heap.size w w' := by
  rcases h with ⟨rfl, rfl⟩ | ⟨rfl, x, rfl, h⟩
  · rw [sameV_left]
    exact refSame_left q w
  · rcases k with ⟨rfl, rfl⟩ | ⟨rfl, y, rfl, k⟩
    · rw [sameV_right]
      exact refSame_right x w
    · rw [sameV_both]
      exact refSame_tabs h k

def keyV (ok : Bool) (f : Nat → Int) (i : Int) : Int := if ok = true ∧ 0 ≤ i ∧ i < 781 then f i.toNat else 0
def keyE (ok : Bool) (i : Int) : Int := if ok = true then (if 0 ≤ i ∧ i < 781 then 0 else 3) else 1
theorem keyAny {w : World} {p : Option Addr} {ok : Bool} {f : Nat → Int} (h : PT w p ok f) (i : Int) :
    Calls Tryd.prog 11 #[.pointer p, .int .i64 i] w fun e w' => e = .returned (.tuple #[.int .u64 (keyV ok f i), .int .i64 (keyE ok i)]) ∧ w = w' := by
  rcases h with ⟨rfl, rfl⟩ | ⟨rfl, b, rfl, h⟩
  · rw [show keyV false f i = 0 from by unfold keyV; rw [if_neg (by simp)], show keyE false i = 1 from by unfold keyE; rw [if_neg (by simp)]]
    exact key_bad (Val.nil w) i
  · by_cases hi : 0 ≤ i ∧ i < 781
    · rw [show keyV true f i = f i.toNat from by unfold keyV; rw [if_pos ⟨rfl, hi⟩], show keyE true i = 0 from by unfold keyE; rw [if_pos rfl, if_pos hi]]
      have e := key_at h i.toNat (by omega)
      rw [show ((i.toNat : Nat) : Int) = i from by omega] at e
      exact e
    · rw [show keyV true f i = 0 from by unfold keyV; rw [if_neg (fun x => hi x.2)], show keyE true i = 3 from by unfold keyE; rw [if_pos rfl, if_neg hi]]
      exact key_out h i (by omega)
theorem refKeyAny {w : World} {p : Option Addr} {ok : Bool} {f : Nat → Int} (h : RT w p ok f) (i : Int) :
    Calls Tryd.prog 22 #[.pointer p, .int .i64 i] w fun e w' => e = .returned (.tuple #[.int .u64 (keyV ok f i), .int .i64 (keyE ok i)]) ∧ w = w' := by
  rcases h with ⟨rfl, rfl⟩ | ⟨rfl, b, rfl, h⟩
  · rw [show keyV false f i = 0 from by unfold keyV; rw [if_neg (by simp)], show keyE false i = 1 from by unfold keyE; rw [if_neg (by simp)]]
    exact refKey_nil i w
  · by_cases hi : 0 ≤ i ∧ i < 781
    · rw [show keyV true f i = f i.toNat from by unfold keyV; rw [if_pos ⟨rfl, hi⟩], show keyE true i = 0 from by unfold keyE; rw [if_pos rfl, if_pos hi]]
      have e := refKey_at h i.toNat (by omega)
      rw [show ((i.toNat : Nat) : Int) = i from by omega] at e
      exact e
    · rw [show keyV true f i = 0 from by unfold keyV; rw [if_neg (fun x => hi x.2)], show keyE true i = 3 from by unfold keyE; rw [if_pos rfl, if_neg hi]]
      exact refKey_out h i (by omega)

set_option maxRecDepth 100000 in
set_option maxHeartbeats 4000000 in
theorem KeysTables_walk (a0 a1 a2 a3 a4 : Int) (_w0 : (Lit.int .i64 a0).wf = true) (_w1 : (Lit.int .i64 a1).wf = true) (w2 : (Lit.int .u64 a2).wf = true) (w3 : (Lit.int .u64 a3).wf = true) (_w4 : (Lit.int .i64 a4).wf = true) (w : World) (hR : Rights w) :
    Calls Tryd.prog 5 #[.int .i64 a0, .int .i64 a1, .int .u64 a2, .int .u64 a3, .int .i64 a4] w fun e w' => e = .returned (.bool true) ∧ Below w.heap.size w w' := by
  obtain ⟨s, rfl⟩ := U_of w2
  obtain ⟨r, rfl⟩ := U_of w3
  clear _w0 _w1 w2 w3 _w4
  have R := Lib.hid hR
  clear hR
  go_enter Tryd.func5, Tryd.ntmps5
  go_wp2_with fail
  refine (ofAny _ _ _).mono ?_
  rintro e w1 ⟨p1, rfl, P1, k1⟩
  go_wp2_with fail
  refine (refOfAny _ _ _).mono ?_
  rintro e w2 ⟨q1, rfl, Q1, k2⟩
  have P1 := P1.low k2
  have K2 := low_next k1 k2
  go_wp2_with fail
  refine (ofAny _ _ _).mono ?_
  rintro e w3 ⟨p2, rfl, P2, k3⟩
  have P1 := P1.low k3
  have Q1 := Q1.low k3
  have K3 := low_next K2 k3
  go_wp2_with fail
  refine (refOfAny _ _ _).mono ?_
  rintro e w4 ⟨q2, rfl, Q2, k4⟩
  have P1 := P1.low k4
  have Q1 := Q1.low k4
  have P2 := P2.low k4
  have K4 := low_next K3 k4
  clear k1 k2 k3 k4 K2 K3
  rcases shapes P1 Q1 with ⟨o1, rfl, rfl⟩ | ⟨o1, b, c, rfl, rfl⟩
  · clear o1
    rcases shapes P2 Q2 with ⟨o2, rfl, rfl⟩ | ⟨o2, b2, c2, rfl, rfl⟩
    all_goals
      clear o2
      go_wp2_with fail
      refine (sameAny P1 P2).mono ?_
      rintro e w5 ⟨rfl, k5⟩
      have K5 := low_next K4 k5
      have P1 := P1.low k5
      have Q1 := Q1.low k5
      have Q2 := Q2.low k5
      clear P2 k5
      go_wp2_with fail
      refine (refSameAny Q1 Q2).mono ?_
      rintro e w6 ⟨rfl, k6⟩
      have K6 := low_next K5 k6
      have P1 := P1.low k6
      have Q1 := Q1.low k6
      clear Q2 k6
      go_wp2_with fail
      refine (keyAny P1 _).mono ?_
      rintro e w7 ⟨rfl, rfl⟩
      go_wp2_with fail
      refine (refKeyAny Q1 _).mono ?_
      rintro e w7 ⟨rfl, rfl⟩
      go_wp2_with fail
      refine wp_loop_rounds 1 ?_
      rw [rounds_succ]
      go_wp2_with fail
      refine (works_any _ (R.out.low K6)).mono ?_
      rintro e w8 ⟨rfl, k8⟩
      go_wp2_with fail
      go_ret
      exact ⟨rfl, low_next K6 k8.below⟩
  · have O1 := Lib.hid o1
    clear o1
    rcases shapes P2 Q2 with ⟨o2, rfl, rfl⟩ | ⟨o2, b2, c2, rfl, rfl⟩
    all_goals
      clear o2
      go_wp2_with fail
      refine (sameAny P1 P2).mono ?_
      rintro e w5 ⟨rfl, k5⟩
      have K5 := low_next K4 k5
      have P1 := P1.low k5
      have Q1 := Q1.low k5
      have Q2 := Q2.low k5
      clear P2 k5
      go_wp2_with fail
      refine (refSameAny Q1 Q2).mono ?_
      rintro e w6 ⟨rfl, k6⟩
      have K6 := low_next K5 k6
      have P1 := P1.low k6
      have Q1 := Q1.low k6
      clear Q2 k6
      go_wp2_with fail
      refine (keyAny P1 _).mono ?_
      rintro e w7 ⟨rfl, rfl⟩
      go_wp2_with fail
      refine (refKeyAny Q1 _).mono ?_
      rintro e w7 ⟨rfl, rfl⟩
      go_wp2_with fail
      have T1 : Tab w6 b true (keysK a0 s) := by
        rcases P1 with ⟨h, _⟩ | ⟨_, x, e, t⟩
        · rw [O1.out] at h; cases h
        · cases e; exact t
      have T2 : RTab w6 c (keysK a0 s) := by
        rcases Q1 with ⟨h, _⟩ | ⟨_, x, e, t⟩
        · rw [O1.out] at h; cases h
        · cases e; exact t
      clear P1 Q1
      go_loopw [23] (fun iv wr => ∃ i : Nat, i ≤ 781 ∧ iv = .int .i64 i ∧ Tab wr b true (keysK a0 s) ∧ RTab wr c (keysK a0 s) ∧ Below w.heap.size w wr) (fun iv _ => 781 - (intOf iv).toNat)
      case atStart => exact ⟨0, Nat.zero_le _, rfl, T1, T2, K6⟩
      case round =>
        clear T1 T2 K6
        obtain ⟨i, hi, rfl, T1, T2, K⟩ := hrel
        by_cases hlt : i < 781
        · have hlt2 : (i : Int) < 781 := by omega
          go_wp2_with fail
          refine (key_at T1 i hlt).mono ?_
          rintro e w9 ⟨rfl, rfl⟩
          have H2 := Lib.hid T2
          obtain ⟨g, cap, h1, _, h3, _, h5⟩ := T2
          have c0 := h1.cell 0
          simp at c0
          have c1 := h5 i hlt
          clear h1 h5
          go_wp2_with fail
          go_roundw
          case rel => exact ⟨i + 1, by omega, by go_num, T1, H2.out, K⟩
          case measure => simp [intOf]; omega
        · have : i = 781 := by omega
          subst this
          go_wp2_with fail
          refine (works_any _ (R.out.low K)).mono ?_
          rintro e w8 ⟨rfl, k8⟩
          go_wp2_with fail
          go_ret
          exact ⟨rfl, low_next K k8.below⟩
end Go.Proofs.YtfnajddkaapejaaDoor
