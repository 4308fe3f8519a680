/-
  Plain laws on numbers as bytes: the zigzag, seven bits a byte.
-/
import Derived.Laws.Bits64
import Derived.Lib.Hide
import Derived.RowKit
namespace Go.Proofs.YtmlcififmjpcpaaDoor
open Go Go.RowKit

/-- A number's bits with the sign last. -/
def zz (n : Int) : Nat := if 0 ≤ n then (2 * n).toNat else (-2 * n - 1).toNat

theorem nat_xor_ones (a : Nat) (h : a < 18446744073709551616) : a ^^^ 18446744073709551615 = 18446744073709551615 - a := by
  have e := BitVec.xor_allOnes (x := BitVec.ofNat 64 a)
  have e2 := congrArg BitVec.toNat e
  rw [BitVec.toNat_xor, BitVec.toNat_not, BitVec.toNat_allOnes, BitVec.toNat_ofNat, Nat.mod_eq_of_lt (by simpa using h)] at e2
  exact e2

theorem zz_bits (n : Int) (h0 : -9223372036854775808 ≤ n) (h1 : n ≤ 9223372036854775807) :
    bits .xor .u64 (IntKind.u64.wrap (IntKind.u64.wrap n * 2)) (IntKind.u64.wrap (n / 9223372036854775808)) = (zz n : Int) := by
  simp only [IntKind.wrap_u64]
  by_cases hn : 0 ≤ n
  · obtain ⟨k, rfl⟩ : ∃ k : Nat, n = k := ⟨n.toNat, by omega⟩
    have e1 : (k : Int) / 9223372036854775808 % 18446744073709551616 = ((0 : Nat) : Int) := by omega
    have e2 : (k : Int) % 18446744073709551616 * 2 % 18446744073709551616 = ((2 * k : Nat) : Int) := by omega
    rw [e1, e2, bits_xor_u64_nat _ _ (by omega) (by omega), zz, if_pos hn, Nat.xor_zero]
    omega
  · have e1 : n / 9223372036854775808 % 18446744073709551616 = ((18446744073709551615 : Nat) : Int) := by omega
    have e2 : n % 18446744073709551616 * 2 % 18446744073709551616 = ((18446744073709551616 + 2 * n).toNat : Int) := by omega
    rw [e1, e2, bits_xor_u64_nat _ _ (by omega) (by omega), nat_xor_ones _ (by omega), zz, if_neg hn]
    omega

theorem zz_lt (n : Int) (h0 : -9223372036854775808 ≤ n) (h1 : n ≤ 9223372036854775807) : zz n < 18446744073709551616 := by
  unfold zz
  split <;> omega

set_option maxRecDepth 10000 in
theorem or128 (u : Nat) : bits .or .u8 (IntKind.u8.wrap (u : Int)) 128 = ((u % 128 + 128 : Nat) : Int) := by
  have h : ∀ x : Fin 256, bits .or .u8 (IntKind.u8.wrap ((x.val : Nat) : Int)) 128 = ((x.val % 128 + 128 : Nat) : Int) := by decide
  have e : IntKind.u8.wrap (u : Int) = IntKind.u8.wrap (((u % 256 : Nat) : Nat) : Int) := by
    simp [IntKind.wrap, IntKind.bits, IntKind.signed]
  have := h ⟨u % 256, by omega⟩
  rw [e, this]
  simp

theorem or128' (u : Nat) : bits .or .u8 ((u : Int) % 256) 128 = ((u % 128 + 128 : Nat) : Int) := by
  have := or128 u
  rwa [show IntKind.u8.wrap (u : Int) = (u : Int) % 256 by simp [IntKind.wrap, IntKind.bits, IntKind.signed]] at this

/-- Seven bits a byte, the lowest first. -/
def vput (u : Nat) : List UInt8 := if u < 128 then [UInt8.ofNat u] else UInt8.ofNat (u % 128 + 128) :: vput (u / 128)
termination_by u
decreasing_by omega

theorem vput_lt {u : Nat} (h : u < 128) : vput u = [UInt8.ofNat u] := by rw [vput, if_pos h]
theorem vput_ge {u : Nat} (h : ¬ u < 128) : vput u = UInt8.ofNat (u % 128 + 128) :: vput (u / 128) := by rw [vput, if_neg h]
theorem vput_pos (u : Nat) : 0 < (vput u).length := by
  rw [vput]
  split <;> simp

theorem vput_len : ∀ (k u : Nat), u < 128 ^ (k + 1) → (vput u).length ≤ k + 1 := by
  intro k
  induction k with
  | zero => intro u h; rw [vput_lt (by simpa using h)]; simp
  | succ k ih =>
    intro u h
    by_cases hu : u < 128
    · rw [vput_lt hu]; simp
    · rw [vput_ge hu]
      have := ih (u / 128) (by rw [Nat.pow_succ] at h; exact Nat.div_lt_of_lt_mul (by rw [Nat.mul_comm]; exact h))
      simpa using this
theorem vput_len10 {u : Nat} (h : u < 18446744073709551616) : (vput u).length ≤ 10 := vput_len 9 u (by omega)

/-- Bytes as cells. -/
def bcells (xs : List UInt8) : List Value := xs.map fun b => .int .u8 (b.toNat : Int)
theorem bcells_length (xs : List UInt8) : (bcells xs).length = xs.length := by simp [bcells]
theorem bcells_append (xs ys : List UInt8) : bcells (xs ++ ys) = bcells xs ++ bcells ys := by simp [bcells]
theorem bcells_one (xs : List UInt8) : ∀ u ∈ bcells xs, u.oneCell' = true := by
  intro u hu
  obtain ⟨b, _, rfl⟩ := List.mem_map.1 hu
  rfl
theorem bcells_get {xs : List UInt8} {i : Nat} (h : i < xs.length) : (bcells xs)[i]? = some (.int .u8 ((xs.getD i 0).toNat : Int)) := by
  simp [bcells, h]

/-- The next byte goes to its place among the ten. -/
theorem ten_set (pre : List UInt8) (b : UInt8) (h : pre.length < 10) :
    (bcells pre ++ List.replicate (10 - pre.length) (Value.int .u8 0)).set pre.length (.int .u8 (b.toNat : Int)) = bcells (pre ++ [b]) ++ List.replicate (10 - (pre ++ [b]).length) (Value.int .u8 0) := by
  rw [List.set_append_right _ _ (by simp [bcells]), bcells_append]
  have e : pre.length - (bcells pre).length = 0 := by simp [bcells]
  obtain ⟨m, hm⟩ : ∃ m, 10 - pre.length = m + 1 := ⟨9 - pre.length, by omega⟩
  have e2 : 10 - (pre ++ [b]).length = m := by simp; omega
  rw [e, hm, e2, List.replicate_succ, List.set_cons_zero, List.append_assoc]
  rfl

theorem short_of {v m : Nat} (h1 : 1 ≤ v) (h : v * 128 ^ m < 18446744073709551616) : m ≤ 9 := by
  by_cases hm : m ≤ 9
  · exact hm
  · exfalso
    have e : 128 ^ 10 ≤ 128 ^ m := Nat.pow_le_pow_right (by decide) (by omega)
    have e2 : 1 * 128 ^ m ≤ v * 128 ^ m := Nat.mul_le_mul_right _ h1
    have e3 : 128 ^ 10 = 1180591620717411303424 := by decide
    omega

theorem ten_ints (xs : List UInt8) (m : Nat) : ∀ u ∈ bcells xs ++ List.replicate m (Value.int .u8 0), ∃ x : Int, u = .int .u8 x := by
  intro u hu
  rcases List.mem_append.1 hu with h | h
  · obtain ⟨b, _, rfl⟩ := List.mem_map.1 h
    exact ⟨_, rfl⟩
  · exact ⟨0, (List.mem_replicate.1 h).2⟩

theorem ofNat_toNat {k : Nat} (h : k < 256) : (((UInt8.ofNat k).toNat : Nat) : Int) = (k : Int) := by
  simp [UInt8.toNat_ofNat']
  omega
end Go.Proofs.YtmlcififmjpcpaaDoor
