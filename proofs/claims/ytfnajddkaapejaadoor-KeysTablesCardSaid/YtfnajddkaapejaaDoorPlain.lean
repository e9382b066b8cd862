/-
  Plain law, no program: the numbers of package mix over 64-bit words; the whole numbers by which the walk writes them; that mixing is one to one.
-/
import Derived.Laws.Bits64
import Derived.OpenShut
namespace Go.Proofs.YtfnajddkaapejaaDoor

/-- A word as the whole number that stands in a slot. -/
def U (x : BitVec 64) : Int := (x.toNat : Int)
def Gam : BitVec 64 := 11400714819323198485#64
def F1 : BitVec 64 := 13787848793156543929#64
def F2 : BitVec 64 := 10723151780598845931#64
def xs (k : Nat) (x : BitVec 64) : BitVec 64 := x ^^^ (x >>> k)
def mixB (x : BitVec 64) : BitVec 64 := xs 31 (xs 27 (xs 30 x * F1) * F2)
def atB (s i : BitVec 64) : BitVec 64 := mixB (s + (i + 1#64) * Gam)

/-! The walk's own forms. -/
def s30 (z : Int) : Int := IntKind.u64.wrap (bits .xor .u64 z (z / 1073741824) * 13787848793156543929)
def s27 (z : Int) : Int := IntKind.u64.wrap (bits .xor .u64 z (z / 134217728) * 10723151780598845931)
def s31 (z : Int) : Int := IntKind.u64.wrap (bits .xor .u64 z (z / 2147483648))
def r31 (z : Int) : Int := bits .xor .u64 z (z / 2147483648)
def mixI (z : Int) : Int := s31 (s27 (s30 z))
def mixR (z : Int) : Int := r31 (s27 (s30 z))
def addG (s : Int) : Int := IntKind.u64.wrap (s + 11400714819323198485)
def inc (d : Int) : Int := IntKind.u64.wrap (d + 1)
def seedI (s i : Int) : Int := IntKind.u64.wrap (s + IntKind.u64.wrap (IntKind.u64.wrap (i + 1) * 11400714819323198485))
def atI (s i : Int) : Int := mixI (seedI s i)
def atR (s i : Int) : Int := mixR (seedI s i)
def modI (x n : Int) : Int := RowKit.wrap64 (x.tmod n)
def dec (d : Int) : Int := IntKind.u64.wrap (d - 1)

theorem U_nonneg (x : BitVec 64) : 0 ≤ U x := Int.natCast_nonneg _
theorem U_lt (x : BitVec 64) : U x < 18446744073709551616 := by
  have := x.isLt
  unfold U
  omega
theorem U_inj {a b : BitVec 64} : U a = U b ↔ a = b := by
  unfold U
  rw [BitVec.toNat_eq]
  omega
theorem U_of {n : Int} (h : (Lit.int .u64 n).wf = true) : ∃ x, n = U x := by
  have hb : 0 ≤ n ∧ n < 18446744073709551616 := by
    have := bounds_u64 h
    omega
  refine ⟨BitVec.ofNat 64 n.toNat, ?_⟩
  unfold U
  rw [BitVec.toNat_ofNat, Nat.mod_eq_of_lt (by omega)]
  omega
theorem U_add (a b : BitVec 64) : IntKind.u64.wrap (U a + U b) = U (a + b) := by
  unfold U
  rw [IntKind.wrap_u64, BitVec.toNat_add]
  omega
theorem U_mul (a b : BitVec 64) : IntKind.u64.wrap (U a * U b) = U (a * b) := by
  unfold U
  rw [IntKind.wrap_u64, BitVec.toNat_mul, ← Int.natCast_mul]
  omega
theorem U_sub (a b : BitVec 64) : IntKind.u64.wrap (U a - U b) = U (a - b) := by
  have ha := a.isLt
  have hb := b.isLt
  unfold U
  rw [IntKind.wrap_u64, BitVec.toNat_sub]
  omega
theorem U_wrap (a : BitVec 64) : IntKind.u64.wrap (U a) = U a := by
  have := U_lt a
  have := U_nonneg a
  rw [IntKind.wrap_u64]
  omega
theorem U_xor (a b : BitVec 64) : bits .xor .u64 (U a) (U b) = U (a ^^^ b) := by
  unfold U
  rw [bits_xor_u64_nat _ _ a.isLt b.isLt, BitVec.toNat_xor]
theorem U_shr (a : BitVec 64) (k : Nat) : U a / ((2 ^ k : Nat) : Int) = U (a >>> k) := by
  unfold U
  rw [BitVec.toNat_ushiftRight, Nat.shiftRight_eq_div_pow]
  exact (Int.natCast_ediv _ _).symm
theorem U_xs (a : BitVec 64) (k : Nat) : bits .xor .u64 (U a) (U a / ((2 ^ k : Nat) : Int)) = U (xs k a) := by
  rw [U_shr, U_xor]
  rfl
theorem U_gam : U Gam = 11400714819323198485 := rfl
theorem U_F1 : U F1 = 13787848793156543929 := rfl
theorem U_F2 : U F2 = 10723151780598845931 := rfl
theorem U_one : U 1#64 = 1 := rfl
theorem U_zero : U 0#64 = 0 := rfl

theorem s30_U (x : BitVec 64) : s30 (U x) = U (xs 30 x * F1) := by
  have h := U_xs x 30
  have e : ((2 ^ 30 : Nat) : Int) = 1073741824 := rfl
  rw [e] at h
  unfold s30
  rw [h, ← U_F1, U_mul]
theorem s27_U (x : BitVec 64) : s27 (U x) = U (xs 27 x * F2) := by
  have h := U_xs x 27
  have e : ((2 ^ 27 : Nat) : Int) = 134217728 := rfl
  rw [e] at h
  unfold s27
  rw [h, ← U_F2, U_mul]
theorem r31_U (x : BitVec 64) : r31 (U x) = U (xs 31 x) := by
  have h := U_xs x 31
  have e : ((2 ^ 31 : Nat) : Int) = 2147483648 := rfl
  rw [e] at h
  unfold r31
  rw [h]
theorem s31_U (x : BitVec 64) : s31 (U x) = U (xs 31 x) := by
  have h := r31_U x
  unfold r31 at h
  unfold s31
  rw [h, U_wrap]
theorem mixI_U (x : BitVec 64) : mixI (U x) = U (mixB x) := by unfold mixI mixB; rw [s30_U, s27_U, s31_U]
theorem mixR_U (x : BitVec 64) : mixR (U x) = U (mixB x) := by unfold mixR mixB; rw [s30_U, s27_U, r31_U]
theorem addG_U (x : BitVec 64) : addG (U x) = U (x + Gam) := by unfold addG; rw [← U_gam, U_add]
theorem inc_U (x : BitVec 64) : inc (U x) = U (x + 1#64) := by unfold inc; rw [← U_one, U_add]
theorem dec_U (x : BitVec 64) : dec (U x) = U (x - 1#64) := by unfold dec; rw [← U_one, U_sub]
theorem seedI_U (s i : BitVec 64) : seedI (U s) (U i) = U (s + (i + 1#64) * Gam) := by unfold seedI; rw [← U_one, ← U_gam, U_add, U_mul, U_add]
theorem atI_U (s i : BitVec 64) : atI (U s) (U i) = U (atB s i) := by unfold atI atB; rw [seedI_U, mixI_U]
theorem atR_U (s i : BitVec 64) : atR (U s) (U i) = U (atB s i) := by unfold atR atB; rw [seedI_U, mixR_U]

/-! ### Mixing is one to one. -/
theorem shr_eq_zero (d : BitVec 64) (k : Nat) (hk : 64 ≤ k) : d >>> k = 0#64 := by
  apply BitVec.eq_of_toNat_eq
  rw [BitVec.toNat_ushiftRight, Nat.shiftRight_eq_div_pow]
  have h : d.toNat < 2 ^ k := Nat.lt_of_lt_of_le d.isLt (Nat.pow_le_pow_right (by decide) hk)
  rw [Nat.div_eq_of_lt h]
  rfl
theorem xs_zero (k : Nat) (hk : 22 ≤ k) (d : BitVec 64) (h : xs k d = 0#64) : d = 0#64 := by
  have e : d = d >>> k := by
    unfold xs at h
    have h2 : d ^^^ (d ^^^ d >>> k) = d ^^^ 0#64 := by rw [h]
    rw [← BitVec.xor_assoc, BitVec.xor_self, BitVec.zero_xor, BitVec.xor_zero] at h2
    exact h2.symm
  have e2 : d >>> k = d >>> (k + k) := by
    have : d >>> k = (d >>> k) >>> k := congrArg (fun x : BitVec 64 => x >>> k) e
    rw [← BitVec.shiftRight_add] at this
    exact this
  have e3 : d >>> (k + k) = d >>> (k + k + k) := by
    have : (d >>> k) >>> k = (d >>> (k + k)) >>> k := congrArg (fun x : BitVec 64 => x >>> k) e2
    rw [← BitVec.shiftRight_add, ← BitVec.shiftRight_add] at this
    exact this
  rw [e, e2, e3]
  exact shr_eq_zero d _ (by omega)
theorem xs_xor (k : Nat) (a b : BitVec 64) : xs k (a ^^^ b) = xs k a ^^^ xs k b := by
  unfold xs
  rw [BitVec.ushiftRight_xor_distrib]
  simp only [BitVec.xor_assoc]
  congr 1
  rw [← BitVec.xor_assoc, BitVec.xor_comm b, BitVec.xor_assoc]
theorem xor_zero_eq {a b : BitVec 64} (h : a ^^^ b = 0#64) : a = b := by
  have h2 : a ^^^ b ^^^ b = 0#64 ^^^ b := by rw [h]
  rw [BitVec.xor_assoc, BitVec.xor_self, BitVec.xor_zero, BitVec.zero_xor] at h2
  exact h2
theorem xs_inj (k : Nat) (hk : 22 ≤ k) {a b : BitVec 64} (h : xs k a = xs k b) : a = b := by
  apply xor_zero_eq
  apply xs_zero k hk
  rw [xs_xor, h, BitVec.xor_self]
theorem mul_inj {f g a b : BitVec 64} (hf : f * g = 1#64) (h : a * f = b * f) : a = b := by
  have h2 : a * f * g = b * f * g := by rw [h]
  rw [BitVec.mul_assoc, BitVec.mul_assoc, hf, BitVec.mul_one, BitVec.mul_one] at h2
  exact h2
theorem F1_inv : F1 * 10871156337175269513#64 = 1#64 := by decide +kernel
theorem F2_inv : F2 * 3573116690164977347#64 = 1#64 := by decide +kernel
theorem Gam_inv : Gam * 17428512612931826493#64 = 1#64 := by decide +kernel
theorem mixB_inj {a b : BitVec 64} (h : mixB a = mixB b) : a = b := by
  unfold mixB at h
  have h1 := xs_inj 31 (by decide) h
  have h2 := xs_inj 27 (by decide) (mul_inj F2_inv h1)
  exact xs_inj 30 (by decide) (mul_inj F1_inv h2)
theorem add_inj_left {s a b : BitVec 64} (h : s + a = s + b) : a = b := by
  have h2 : s + a - s = s + b - s := by rw [h]
  rw [BitVec.add_comm s a, BitVec.add_comm s b, BitVec.add_sub_cancel, BitVec.add_sub_cancel] at h2
  exact h2
theorem add_inj_right {s a b : BitVec 64} (h : a + s = b + s) : a = b := by
  rw [BitVec.add_comm a s, BitVec.add_comm b s] at h
  exact add_inj_left h
theorem atB_index {s i k : BitVec 64} (h : atB s i = atB s k) : i = k :=
  add_inj_right (mul_inj Gam_inv (add_inj_left (mixB_inj h)))
theorem atB_seed {s r i : BitVec 64} (h : atB s i = atB r i) : s = r := add_inj_right (mixB_inj h)
theorem atB_shift (s i k : BitVec 64) : atB s (i + k) = atB (s + k * Gam) i := by
  unfold atB
  congr 1
  rw [show i + k + 1#64 = k + (i + 1#64) from by rw [BitVec.add_comm i k, BitVec.add_assoc], BitVec.add_mul, BitVec.add_assoc]

/-! ### The state behind n draws. -/
def stB (s : BitVec 64) (n : Nat) : BitVec 64 := s + BitVec.ofNat 64 n * Gam
theorem stB_zero (s : BitVec 64) : stB s 0 = s := by
  unfold stB
  rw [show BitVec.ofNat 64 0 = 0#64 from rfl, BitVec.zero_mul, BitVec.add_zero]
theorem ofNat_succ (n : Nat) : BitVec.ofNat 64 (n + 1) = BitVec.ofNat 64 n + 1#64 := BitVec.ofNat_add n 1
theorem stB_succ (s : BitVec 64) (n : Nat) : stB s n + Gam = stB s (n + 1) := by
  unfold stB
  rw [ofNat_succ, BitVec.add_mul, BitVec.one_mul, BitVec.add_assoc]
theorem stB_at (s : BitVec 64) (n : Nat) : mixB (stB s (n + 1)) = atB s (BitVec.ofNat 64 n) := by
  unfold stB atB
  rw [ofNat_succ]
theorem U_small {n : Nat} (h : n < 18446744073709551616) : U (BitVec.ofNat 64 n) = (n : Int) := by
  unfold U
  rw [BitVec.toNat_ofNat, Nat.mod_eq_of_lt (by omega)]
end Go.Proofs.YtfnajddkaapejaaDoor
