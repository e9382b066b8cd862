/-
  The walk of MixPlays.
-/
import Derived.Test.YtfnajddkaapejaaGen
namespace Go.Proofs.Ytfnajddkaapejaa
open Go.RowKit

/-- A slice of steps that came in: nil, or a row of pairs. -/
def IsSteps (w : World) (a : Option Addr) (len cap : Nat) : Prop :=
  (a = none ∧ len = 0 ∧ cap = 0) ∨
  ∃ x : Addr, a = some x ∧ len ≤ cap ∧ cap ≤ maxLen ∧ ∀ i, i < len → ∃ (b off d : Nat) (m : Int), x = ⟨b, off, none⟩ ∧ d ≤ 255 ∧ m ≤ 9223372036854775807 ∧ w.cell? ⟨b, off + i * 2, none⟩ = some (.int .u8 (d : Int)) ∧ w.cell? ⟨b, off + i * 2 + 1, none⟩ = some (.int .i64 m)

/-- Below in one word, whatever the limit. -/
def bv (s : BitVec 64) (n : Nat) (m : Int) : Int := if m < 1 then 0 else modI (atI (U s) (n : Int)) m
def be (m : Int) : Int := if m < 1 then 2 else 0
def bn (n : Nat) (m : Int) : Nat := if m < 1 then n else n + 1
theorem bn_le (n : Nat) (m : Int) : bn n m ≤ n + 1 := by unfold bn; split <;> omega
theorem genAny (b : Nat) (s : BitVec 64) (n : Nat) (hn : n ≤ 1000000) (m : Int) (w : World) (h : Gen w b s n) (hm2 : m ≤ 9223372036854775807) :
    Calls Try.prog 17 #[.pointer (some ⟨b, 0, none⟩), .int .i64 m] w fun e w' => e = .returned (.tuple #[.int .i64 (bv s n m), .int .i64 (be m)]) ∧ Gen w' b s (bn n m) ∧ One b w w' := by
  unfold bv be bn
  by_cases hm : m < 1
  · rw [if_pos hm, if_pos hm, if_pos hm]
    exact (genLow b s n m w h hm).mono fun _ _ ⟨he, hw⟩ => ⟨he, hw ▸ h, hw ▸ Ch.refl _ _⟩
  · rw [if_neg hm, if_neg hm, if_neg hm]
    exact genBelow b s n hn m w h (by omega) hm2
theorem rgenAny (b : Nat) (s : BitVec 64) (n : Nat) (hn : n ≤ 1000000) (m : Int) (w : World) (h : RGen w b s n) (hm2 : m ≤ 9223372036854775807) :
    Calls Try.prog 18 #[.pointer (some ⟨b, 0, none⟩), .int .i64 m] w fun e w' => e = .returned (.tuple #[.int .i64 (bv s n m), .int .i64 (be m)]) ∧ RGen w' b s (bn n m) ∧ One b w w' := by
  unfold bv be bn
  by_cases hm : m < 1
  · rw [if_pos hm, if_pos hm, if_pos hm]
    exact (rgenLow b s n m w h hm).mono fun _ _ ⟨he, hw⟩ => ⟨he, hw ▸ h, hw ▸ Ch.refl _ _⟩
  · rw [if_neg hm, if_neg hm, if_neg hm]
    exact rgenBelow b s n hn m w h (by omega) hm2

theorem Gen.ne {w : World} {b c : Nat} {s r : BitVec 64} {n m : Nat} (h : Gen w b s n) (k : RGen w c r m) : b ≠ c := by
  rintro rfl
  unfold Gen Mix Blk at h
  unfold RGen Ref Blk at k
  rw [h] at k
  simp at k

/-- The pair that was copied last, if any: how many its two had drawn. -/
def Old (w : World) (base : Nat) (b c : Nat) (po pw : Option Addr) (s : BitVec 64) (n : Nat) : Prop :=
  (po = none ∧ pw = none ∧ n = 0) ∨
  ∃ b2 c2, po = some ⟨b2, 0, none⟩ ∧ pw = some ⟨c2, 0, none⟩ ∧ Gen w b2 s n ∧ RGen w c2 s n ∧ base ≤ b2 ∧ base ≤ c2 ∧ b2 ≠ b ∧ c2 ≠ c
theorem oldPos {w : World} {base b c : Nat} {po pw : Option Addr} {s : BitVec 64} {n : Nat} (h : Old w base b c po pw s n) :
    Calls Try.prog 11 #[.pointer po] w fun e w' => e = .returned (.int .u64 (n : Int)) ∧ w = w' := by
  rcases h with ⟨rfl, rfl, rfl⟩ | ⟨b2, c2, rfl, rfl, g, r, _⟩
  · exact pos_nil w
  · exact genPos b2 s n w g
theorem rOldPos {w : World} {base b c : Nat} {po pw : Option Addr} {s : BitVec 64} {n : Nat} (h : Old w base b c po pw s n) :
    Calls Try.prog 21 #[.pointer pw] w fun e w' => e = .returned (.int .u64 (n : Int)) ∧ w = w' := by
  rcases h with ⟨rfl, rfl, rfl⟩ | ⟨b2, c2, rfl, rfl, g, r, _⟩
  · exact refPos_nil w
  · exact rgenPos c2 s n w r
theorem Old.keep {S : Nat → Prop} {w w' : World} {base b c : Nat} {po pw : Option Addr} {s : BitVec 64} {n : Nat} (h : Old w base b c po pw s n) (k : Ch S w w')
    (hs : ∀ b2 c2, Gen w b2 s n → RGen w c2 s n → b2 ≠ b → c2 ≠ c → ¬ S b2 ∧ ¬ S c2) : Old w' base b c po pw s n := by
  rcases h with h | ⟨b2, c2, e1, e2, g, r, h1, h2, h3, h4⟩
  · exact .inl h
  · obtain ⟨n1, n2⟩ := hs b2 c2 g r h3 h4
    exact .inr ⟨b2, c2, e1, e2, g.keep k n1, r.keep k n2, h1, h2, h3, h4⟩

/-- What holds of the two generators at the head of a round. -/
def Pair (w0 wr : World) (s : BitVec 64) (k b c : Nat) (po pw : Option Addr) : Prop :=
  ∃ n n2, n ≤ k ∧ n2 ≤ k ∧ Gen wr b s n ∧ RGen wr c s n ∧ Old wr w0.heap.size b c po pw s n2 ∧ w0.heap.size ≤ b ∧ w0.heap.size ≤ c ∧ Kin w0 wr

set_option maxRecDepth 100000 in
set_option maxHeartbeats 2000000 in
theorem MixPlays_walk (a0 a1 : Int) (a : Option Addr) (len cap : Nat) (w : World) (w0 : (Lit.int .u64 a0).wf = true) (w1 : (Lit.int .u64 a1).wf = true) (w2 : IsSteps w a len cap) :
    Calls Try.prog 6 #[.int .u64 a0, .int .u64 a1, .slice a len cap] w fun e w' => e = .returned (.bool true) ∧ Kin w w' := by
  obtain ⟨s, rfl⟩ := U_of w0
  obtain ⟨q, rfl⟩ := U_of w1
  clear w0 w1
  have H2 := Lib.hid w2
  have hcap : len ≤ maxLen := by
    rcases w2 with ⟨_, h, _⟩ | ⟨_, _, h1, h2, _⟩
    · omega
    · omega
  unfold maxLen at hcap
  clear w2
  by_cases hl : 100 < len
  · go_enter Try.func6, Try.ntmps6
    go_wp2_with fail
    refine (works_any _).mono ?_
    rintro e w5 ⟨rfl, k6⟩
    go_wp2_with fail
    go_ret
    exact ⟨rfl, k6⟩
  · go_enter Try.func6, Try.ntmps6
    go_wp2_with fail
    refine (genNew _ _).mono ?_
    rintro e w1 ⟨b, rfl, g0, hb, k0⟩
    go_wp2_with fail
    refine (rgenNew _ _).mono ?_
    rintro e w2 ⟨c, rfl, r0, hc, k1⟩
    have g1 := g0.keep k1 (fun f => f)
    have K1 := k0.kin k1
    have hcw : w.heap.size ≤ c := Nat.le_trans k0.size hc
    clear g0 k0 k1 hc
    go_wp2_with fail
    go_loopw [7, 8, 9, 10, 27] (fun m r o z i wr => ∃ (k b c : Nat) (po pw : Option Addr), k ≤ len ∧ i = .int .i64 k ∧ m = .pointer (some ⟨b, 0, none⟩) ∧ r = .pointer (some ⟨c, 0, none⟩) ∧ o = .pointer po ∧ z = .pointer pw ∧ Pair w wr s k b c po pw) (fun _ _ _ _ i _ => len - (intOf i).toNat)
    case atStart => exact ⟨0, b, c, none, none, Nat.zero_le _, rfl, rfl, rfl, rfl, rfl, 0, 0, Nat.le_refl _, Nat.le_refl _, g1, r0, .inl ⟨rfl, rfl, rfl⟩, hb, hcw, K1⟩
    case round =>
      clear g1 r0 hb hcw K1
      obtain ⟨k, b, c, po, pw, hk, rfl, rfl, rfl, rfl, rfl, n, n2, hn, hn2, g, r, o, hb, hc, kk⟩ := hrel
      by_cases hlt : k < len
      · rcases H2.out with ⟨_, h, _⟩ | ⟨x, rfl, _, _, hi⟩
        · omega
        obtain ⟨B, off, d, m, rfl, hd, hm, c0, c1⟩ := hi k hlt
        have hB := World.block_lt_of_cell? _ _ c0
        simp at hB
        have d0 := (kk.below.cell (p := ⟨B, off + k * 2, none⟩) hB).trans c0
        have d1 := (kk.below.cell (p := ⟨B, off + k * 2 + 1, none⟩) hB).trans c1
        clear hi c0 c1
        have O := Lib.hid o
        clear o
        have hcase : (d : Int) % 4 = 0 ∨ (d : Int) % 4 = 1 ∨ (d : Int) % 4 = 2 ∨ (d : Int) % 4 = 3 := by omega
        rcases hcase with h | h | h | h
        · -- Next
          have g1 := Blk.alloc g (.cells #[.int .u8 (d : Int), .int .i64 m] 35)
          have r1 := Blk.alloc r (.cells #[.int .u8 (d : Int), .int .i64 m] 35)
          have K1 : Kin w (wr.alloc (.cells #[.int .u8 (d : Int), .int .i64 m] 35)) := kk.alloc _ _
          have O1 := Lib.hid (O.out.keep (Ch.alloc (Ch.refl (fun _ => False) wr) #[.int .u8 (d : Int), .int .i64 m] 35) (fun _ _ _ _ _ _ => ⟨fun f => f, fun f => f⟩))
          have hbc : b ≠ c := g.ne r
          clear g r kk O
          go_wp2_with fail
          refine (genNext b s n (by omega) _ g1).mono ?_
          rintro e w3 ⟨rfl, g2, k1⟩
          have r2 := RGen.keep r1 k1 (fun e => hbc e.symm)
          have O2 := Lib.hid (O1.out.keep k1 (fun b2 c2 x y h1 h2 => ⟨h1, fun e => Gen.ne g1 y e.symm⟩))
          have K2 := K1.one k1 hb
          clear g1 r1 O1 K1 k1
          go_wp2_with fail
          refine (rgenNext c s n (by omega) _ r2).mono ?_
          rintro e w4 ⟨rfl, r3, k1⟩
          have g3 := g2.keep k1 hbc
          have O3 := Lib.hid (O2.out.keep k1 (fun b2 c2 x y h1 h2 => ⟨fun e => Gen.ne x r2 e, h2⟩))
          have K3 := K2.one k1 hc
          clear g2 r2 O2 K2 k1
          have g2 := g3
          have r2 := r3
          have O2 := O3
          have K2 := K3
          clear g3 r3 O3 K3
          go_wp2_with fail
          refine (genPos b s (n + 1) _ g2).mono ?_
          rintro e w9 ⟨rfl, rfl⟩
          go_wp2_with fail
          refine (rgenPos c s (n + 1) _ r2).mono ?_
          rintro e w9 ⟨rfl, rfl⟩
          go_wp2_with fail
          refine (oldPos O2.out).mono ?_
          rintro e w9 ⟨rfl, rfl⟩
          go_wp2_with fail
          refine (rOldPos O2.out).mono ?_
          rintro e w9 ⟨rfl, rfl⟩
          go_wp2_with fail
          go_roundw
          case rel => exact ⟨k + 1, b, c, po, pw, by omega, by go_num, rfl, rfl, rfl, rfl, (n + 1), n2, by omega, by omega, g2, r2, O2.out, hb, hc, K2⟩
          case measure => simp [intOf]; omega
        · -- Below
          have g1 := Blk.alloc g (.cells #[.int .u8 (d : Int), .int .i64 m] 35)
          have r1 := Blk.alloc r (.cells #[.int .u8 (d : Int), .int .i64 m] 35)
          have K1 : Kin w (wr.alloc (.cells #[.int .u8 (d : Int), .int .i64 m] 35)) := kk.alloc _ _
          have O1 := Lib.hid (O.out.keep (Ch.alloc (Ch.refl (fun _ => False) wr) #[.int .u8 (d : Int), .int .i64 m] 35) (fun _ _ _ _ _ _ => ⟨fun f => f, fun f => f⟩))
          have hbc : b ≠ c := g.ne r
          have x1 := Blk.new wr #[.int .u8 (d : Int), .int .i64 m] 35
          have hbx : wr.heap.size ≠ b := by have := g.lt; omega
          have hbn := bn_le n m
          clear g r kk O
          go_wp2_with fail
          refine (genAny b s n (by omega) m _ g1 hm).mono ?_
          rintro e w3 ⟨rfl, g2, k1⟩
          have r2 := RGen.keep r1 k1 (fun e => hbc e.symm)
          have O2 := Lib.hid (O1.out.keep k1 (fun b2 c2 x y h1 h2 => ⟨h1, fun e => Gen.ne g1 y e.symm⟩))
          have K2 := K1.one k1 hb
          have x2 := (x1.keep k1 hbx).cell 1
          simp at x2
          clear x1
          clear g1 r1 O1 K1 k1
          go_wp2_with fail
          refine (rgenAny c s n (by omega) m _ r2 hm).mono ?_
          rintro e w4 ⟨rfl, r3, k1⟩
          have g3 := g2.keep k1 hbc
          have O3 := Lib.hid (O2.out.keep k1 (fun b2 c2 x y h1 h2 => ⟨fun e => Gen.ne x r2 e, h2⟩))
          have K3 := K2.one k1 hc
          clear g2 r2 O2 K2 k1 x2
          have g2 := g3
          have r2 := r3
          have O2 := O3
          have K2 := K3
          clear g3 r3 O3 K3
          go_wp2_with fail
          refine (genPos b s (bn n m) _ g2).mono ?_
          rintro e w9 ⟨rfl, rfl⟩
          go_wp2_with fail
          refine (rgenPos c s (bn n m) _ r2).mono ?_
          rintro e w9 ⟨rfl, rfl⟩
          go_wp2_with fail
          refine (oldPos O2.out).mono ?_
          rintro e w9 ⟨rfl, rfl⟩
          go_wp2_with fail
          refine (rOldPos O2.out).mono ?_
          rintro e w9 ⟨rfl, rfl⟩
          go_wp2_with fail
          go_roundw
          case rel => exact ⟨k + 1, b, c, po, pw, by omega, by go_num, rfl, rfl, rfl, rfl, (bn n m), n2, by omega, by omega, g2, r2, O2.out, hb, hc, K2⟩
          case measure => simp [intOf]; omega
        · -- Below
          have g1 := Blk.alloc g (.cells #[.int .u8 (d : Int), .int .i64 m] 35)
          have r1 := Blk.alloc r (.cells #[.int .u8 (d : Int), .int .i64 m] 35)
          have K1 : Kin w (wr.alloc (.cells #[.int .u8 (d : Int), .int .i64 m] 35)) := kk.alloc _ _
          have O1 := Lib.hid (O.out.keep (Ch.alloc (Ch.refl (fun _ => False) wr) #[.int .u8 (d : Int), .int .i64 m] 35) (fun _ _ _ _ _ _ => ⟨fun f => f, fun f => f⟩))
          have hbc : b ≠ c := g.ne r
          have x1 := Blk.new wr #[.int .u8 (d : Int), .int .i64 m] 35
          have hbx : wr.heap.size ≠ b := by have := g.lt; omega
          have hbn := bn_le n m
          clear g r kk O
          go_wp2_with fail
          refine (genAny b s n (by omega) m _ g1 hm).mono ?_
          rintro e w3 ⟨rfl, g2, k1⟩
          have r2 := RGen.keep r1 k1 (fun e => hbc e.symm)
          have O2 := Lib.hid (O1.out.keep k1 (fun b2 c2 x y h1 h2 => ⟨h1, fun e => Gen.ne g1 y e.symm⟩))
          have K2 := K1.one k1 hb
          have x2 := (x1.keep k1 hbx).cell 1
          simp at x2
          clear x1
          clear g1 r1 O1 K1 k1
          go_wp2_with fail
          refine (rgenAny c s n (by omega) m _ r2 hm).mono ?_
          rintro e w4 ⟨rfl, r3, k1⟩
          have g3 := g2.keep k1 hbc
          have O3 := Lib.hid (O2.out.keep k1 (fun b2 c2 x y h1 h2 => ⟨fun e => Gen.ne x r2 e, h2⟩))
          have K3 := K2.one k1 hc
          clear g2 r2 O2 K2 k1 x2
          have g2 := g3
          have r2 := r3
          have O2 := O3
          have K2 := K3
          clear g3 r3 O3 K3
          go_wp2_with fail
          refine (genPos b s (bn n m) _ g2).mono ?_
          rintro e w9 ⟨rfl, rfl⟩
          go_wp2_with fail
          refine (rgenPos c s (bn n m) _ r2).mono ?_
          rintro e w9 ⟨rfl, rfl⟩
          go_wp2_with fail
          refine (oldPos O2.out).mono ?_
          rintro e w9 ⟨rfl, rfl⟩
          go_wp2_with fail
          refine (rOldPos O2.out).mono ?_
          rintro e w9 ⟨rfl, rfl⟩
          go_wp2_with fail
          go_roundw
          case rel => exact ⟨k + 1, b, c, po, pw, by omega, by go_num, rfl, rfl, rfl, rfl, (bn n m), n2, by omega, by omega, g2, r2, O2.out, hb, hc, K2⟩
          case measure => simp [intOf]; omega
        · -- Copy
          have g1 := Blk.alloc g (.cells #[.int .u8 (d : Int), .int .i64 m] 35)
          have r1 := Blk.alloc r (.cells #[.int .u8 (d : Int), .int .i64 m] 35)
          have K1 : Kin w (wr.alloc (.cells #[.int .u8 (d : Int), .int .i64 m] 35)) := kk.alloc _ _
          have O1 := Lib.hid (O.out.keep (Ch.alloc (Ch.refl (fun _ => False) wr) #[.int .u8 (d : Int), .int .i64 m] 35) (fun _ _ _ _ _ _ => ⟨fun f => f, fun f => f⟩))
          have hbc : b ≠ c := g.ne r
          clear g r kk O O1
          go_wp2_with fail
          refine (genCopy b s n _ g1).mono ?_
          rintro e w3 ⟨b2, rfl, h2, hb2, k1⟩
          have g2 := Gen.keep g1 k1 (fun f => f)
          have r2 := RGen.keep r1 k1 (fun f => f)
          have K2 := K1.kin k1
          have hne : b ≠ b2 := by have := g1.lt; omega
          have hwb : w.heap.size ≤ b2 := Nat.le_trans K1.size hb2
          clear g1 r1 K1 k1 hb2
          go_wp2_with fail
          refine (rgenCopy c s n _ r2).mono ?_
          rintro e w4 ⟨c2, rfl, i2, hc2, k1⟩
          have g3 := g2.keep k1 (fun f => f)
          have r3 := r2.keep k1 (fun f => f)
          have h3 := h2.keep k1 (fun f => f)
          have K3 := K2.kin k1
          have hme : c ≠ c2 := by have := r2.lt; omega
          have hwc : w.heap.size ≤ c2 := Nat.le_trans K2.size hc2
          have O2 : Hid (Old w4 w.heap.size b2 c2 (some ⟨b, 0, none⟩) (some ⟨c, 0, none⟩) s n) := Or.inr ⟨b, c, rfl, rfl, g3, r3, hb, hc, hne, hme⟩
          clear g2 r2 h2 K2 k1 hc2
          have g2 := h3
          have r2 := i2
          have K2 := K3
          clear g3 r3 h3 i2 K3
          go_wp2_with fail
          refine (genPos b2 s n _ g2).mono ?_
          rintro e w9 ⟨rfl, rfl⟩
          go_wp2_with fail
          refine (rgenPos c2 s n _ r2).mono ?_
          rintro e w9 ⟨rfl, rfl⟩
          go_wp2_with fail
          refine (oldPos O2.out).mono ?_
          rintro e w9 ⟨rfl, rfl⟩
          go_wp2_with fail
          refine (rOldPos O2.out).mono ?_
          rintro e w9 ⟨rfl, rfl⟩
          go_wp2_with fail
          go_roundw
          case rel => exact ⟨k + 1, b2, c2, (some ⟨b, 0, none⟩), (some ⟨c, 0, none⟩), by omega, by go_num, rfl, rfl, rfl, rfl, n, n, by omega, by omega, g2, r2, O2.out, hwb, hwc, K2⟩
          case measure => simp [intOf]; omega
      · have : k = len := by omega
        subst this
        have e1 : (atI (U s) (U q) == atR (U s) (U q)) = true := by rw [atI_U, atR_U]; exact beq_self_eq_true _
        have hbc : b ≠ c := g.ne r
        rcases o with ⟨rfl, rfl, rfl⟩ | ⟨b2, c2, rfl, rfl, g2, r2, hb2, hc2, n1, n3⟩
        · go_wp2_with fail
          refine (at_any _ _ _).mono ?_
          rintro e w3 ⟨rfl, k1⟩
          go_wp2_with fail
          refine (refAt_any _ _ _).mono ?_
          rintro e w4 ⟨rfl, rfl⟩
          go_wp2_with fail
          refine (next_nil _).mono ?_
          rintro e w4 ⟨rfl, rfl⟩
          go_wp2_with fail
          refine (refNext_nil _).mono ?_
          rintro e w4 ⟨rfl, rfl⟩
          go_wp2_with fail
          refine (genNext b s n (by omega) _ (g.keep k1 (fun f => f))).mono ?_
          rintro e w4 ⟨rfl, _, k2⟩
          go_wp2_with fail
          refine (rgenNext c s n (by omega) _ ((r.keep k1 (fun f => f)).keep k2 (fun e => hbc e.symm))).mono ?_
          rintro e w5 ⟨rfl, _, k3⟩
          go_wp2_with fail
          refine (works_any _).mono ?_
          rintro e w6 ⟨rfl, k4⟩
          go_wp2_with fail
          go_ret
          exact ⟨rfl, ((((kk.kin k1).one k2 hb).one k3 hc).kin k4)⟩
        · have q1 : b2 ≠ c := g2.ne r
          have q2 : b ≠ c2 := g.ne r2
          have q3 : b2 ≠ c2 := g2.ne r2
          go_wp2_with fail
          refine (at_any _ _ _).mono ?_
          rintro e w3 ⟨rfl, k1⟩
          have G1 := g.keep k1 (fun f => f)
          have R1 := r.keep k1 (fun f => f)
          have A1 := g2.keep k1 (fun f => f)
          have B1 := r2.keep k1 (fun f => f)
          clear g r g2 r2
          go_wp2_with fail
          refine (refAt_any _ _ _).mono ?_
          rintro e w4 ⟨rfl, rfl⟩
          go_wp2_with fail
          refine (genNext b2 s n2 (by omega) _ A1).mono ?_
          rintro e w4 ⟨rfl, _, k2⟩
          have G2 := G1.keep k2 (fun e => n1 e.symm)
          have R2 := R1.keep k2 (fun e => q1 e.symm)
          have B2 := B1.keep k2 (fun e => q3 e.symm)
          clear G1 R1 A1 B1
          go_wp2_with fail
          refine (rgenNext c2 s n2 (by omega) _ B2).mono ?_
          rintro e w5 ⟨rfl, _, k3⟩
          have G3 := G2.keep k3 q2
          have R3 := R2.keep k3 (fun e => n3 e.symm)
          clear G2 R2 B2
          go_wp2_with fail
          refine (genNext b s n (by omega) _ G3).mono ?_
          rintro e w6 ⟨rfl, _, k4⟩
          have R4 := R3.keep k4 (fun e => hbc e.symm)
          clear G3 R3
          go_wp2_with fail
          refine (rgenNext c s n (by omega) _ R4).mono ?_
          rintro e w7 ⟨rfl, _, k5⟩
          go_wp2_with fail
          refine (works_any _).mono ?_
          rintro e w8 ⟨rfl, k6⟩
          go_wp2_with fail
          go_ret
          exact ⟨rfl, ((((((kk.kin k1).one k2 hb2).one k3 hc2).one k4 hb).one k5 hc).kin k6)⟩
end Go.Proofs.Ytfnajddkaapejaa
