/-
  Plain laws on bytes as numbers: what they say, there and back.
-/
import Derived.Test.YtmlcififmjpcpaaDoorBytes
import Derived.Laws.BitsAllLaws
namespace Go.Proofs.YtmlcififmjpcpaaDoor
open Go Go.RowKit

/-- What bytes say, seven bits each. -/
def vval : List UInt8 → Nat
  | [] => 0
  | b :: r => b.toNat % 128 + 128 * vval r

theorem vval_append (xs : List UInt8) (b : UInt8) : vval (xs ++ [b]) = vval xs + (b.toNat % 128) * 128 ^ xs.length := by
  induction xs with
  | nil => simp [vval]
  | cons x r ih =>
    rw [List.cons_append, vval, vval, ih, List.length_cons, Nat.pow_succ, Nat.mul_add]
    rw [← Nat.mul_assoc, ← Nat.mul_assoc, Nat.mul_comm _ 128, Nat.mul_assoc 128, ← Nat.add_assoc, ← Nat.mul_assoc]
theorem vval_lt (xs : List UInt8) : vval xs < 128 ^ xs.length := by
  induction xs with
  | nil => simp [vval]
  | cons x r ih =>
    rw [vval, List.length_cons, Nat.pow_succ]
    have := Nat.mod_lt x.toNat (show 0 < 128 by decide)
    omega

theorem pow7 (k : Nat) : 2 ^ (7 * k) = 128 ^ k := by rw [Nat.pow_mul]

/-- The next byte's bits go above those that were there. -/
theorem or_next (pre : List UInt8) (c : UInt8) (h : pre.length ≤ 9) :
    vval pre % 18446744073709551616 ||| ((c.toNat % 128) * 2 ^ (7 * pre.length)) % 18446744073709551616 = vval (pre ++ [c]) % 18446744073709551616 := by
  have h1 := vval_lt pre
  have h2 : 128 ^ pre.length ≤ 128 ^ 9 := Nat.pow_le_pow_right (by decide) h
  have h3 : (128 : Nat) ^ 9 = 9223372036854775808 := by decide
  have h4 : vval pre % 18446744073709551616 = vval pre := Nat.mod_eq_of_lt (by omega)
  rw [h4, vval_append]
  obtain ⟨q, hq⟩ : ∃ q, 18446744073709551616 = 2 ^ (7 * pre.length) * q := by
    refine ⟨2 ^ (64 - 7 * pre.length), ?_⟩
    rw [← Nat.pow_add, show 7 * pre.length + (64 - 7 * pre.length) = 64 by omega]
  rw [← pow7] at h1 ⊢
  have e : (c.toNat % 128 * 2 ^ (7 * pre.length)) % 18446744073709551616 = 2 ^ (7 * pre.length) * (c.toNat % 128 % q) := by
    rw [hq, Nat.mul_comm, Nat.mul_mod_mul_left]
  rw [e, Nat.or_comm, ← Nat.two_pow_add_eq_or_of_lt h1]
  have hlt : 2 ^ (7 * pre.length) * (c.toNat % 128 % q) + vval pre < 18446744073709551616 := by
    rcases Nat.eq_zero_or_pos q with h0 | h0
    · rw [h0] at hq; omega
    · have hm := Nat.mod_lt (c.toNat % 128) h0
      have : 2 ^ (7 * pre.length) * (c.toNat % 128 % q + 1) ≤ 2 ^ (7 * pre.length) * q := Nat.mul_le_mul_left _ hm
      rw [← hq, Nat.mul_add, Nat.mul_one] at this
      omega
  rw [Nat.add_comm (vval pre), Nat.add_mod, e, h4]
  rw [Nat.mod_eq_of_lt hlt]

theorem or_next_int (pre : List UInt8) (c : UInt8) (h : pre.length ≤ 9) :
    bits .or .u64 ((vval pre % 18446744073709551616 : Nat) : Int) ((((c.toNat % 128) * 2 ^ (7 * pre.length)) % 18446744073709551616 : Nat) : Int) = ((vval (pre ++ [c]) % 18446744073709551616 : Nat) : Int) := by
  rw [u64_or_nat _ _ (Nat.mod_lt _ (by decide)) (Nat.mod_lt _ (by decide)), or_next pre c h]

theorem and127 (c : UInt8) : bits .and .u8 (c.toNat : Int) 127 = ((c.toNat % 128 : Nat) : Int) := by
  have h := u8_and_nat c.toNat 127 (UInt8.toNat_lt c) (by decide)
  rw [show (127 : Int) = ((127 : Nat) : Int) from rfl, h, show 127 = 2 ^ 7 - 1 by decide, Nat.and_two_pow_sub_one_eq_mod]

/-- The number of a zigzag. -/
def unzz (u : Nat) : Int := if u % 2 = 0 then ((u / 2 : Nat) : Int) else -((u / 2 : Nat) : Int) - 1
theorem unzz_zz (n : Int) : unzz (zz n) = n := by
  unfold zz
  split
  · have e : (2 * n).toNat % 2 = 0 := by omega
    rw [unzz, if_pos e]
    omega
  · have e : ¬ (-2 * n - 1).toNat % 2 = 0 := by omega
    rw [unzz, if_neg e]
    omega
theorem zz_unzz (u : Nat) : zz (unzz u) = u := by
  unfold unzz
  split
  · rw [zz, if_pos (by omega)]; omega
  · rw [zz, if_neg (by omega)]; omega
theorem unzz_range {u : Nat} (h : u < 18446744073709551616) : -9223372036854775808 ≤ unzz u ∧ unzz u ≤ 9223372036854775807 := by
  unfold unzz
  split <;> omega

theorem xor_neg1 (a : Nat) (h : a < 9223372036854775808) : bits .xor .i64 (a : Int) (-1) = -(a : Int) - 1 := by
  have h1 : (BitVec.ofInt 64 (a : Int)) = BitVec.ofNat 64 a := BitVec.ofInt_natCast _ _
  have h2 : BitVec.ofInt 64 (-1) = BitVec.allOnes 64 := by decide
  show IntKind.i64.wrap ((BitVec.ofInt 64 (a : Int) ^^^ BitVec.ofInt 64 (-1)).toNat : Int) = _
  rw [h1, h2, BitVec.xor_allOnes, BitVec.toNat_not, BitVec.toNat_ofNat]
  simp only [IntKind.wrap, IntKind.bits, IntKind.signed]
  rw [Nat.mod_eq_of_lt (by omega)]
  simp
  omega
theorem xor_zero (a : Nat) (h : a < 9223372036854775808) : bits .xor .i64 (a : Int) 0 = (a : Int) := by
  have h1 : (BitVec.ofInt 64 (a : Int)) = BitVec.ofNat 64 a := BitVec.ofInt_natCast _ _
  have h2 : BitVec.ofInt 64 0 = 0#64 := by decide
  show IntKind.i64.wrap ((BitVec.ofInt 64 (a : Int) ^^^ BitVec.ofInt 64 0).toNat : Int) = _
  rw [h1, h2, BitVec.xor_zero, BitVec.toNat_ofNat]
  simp only [IntKind.wrap, IntKind.bits, IntKind.signed]
  rw [Nat.mod_eq_of_lt (by omega)]
  simp
  omega
theorem wrap64_id {n : Int} (h0 : -9223372036854775808 ≤ n) (h1 : n ≤ 9223372036854775807) : wrap64 n = n := by
  unfold wrap64
  omega

theorem unzz_bits (u : Nat) (h : u < 18446744073709551616) : bits .xor .i64 (wrap64 ((u : Int) / 2)) (wrap64 (-wrap64 (bits .and .u64 (u : Int) 1))) = unzz u := by
  have e1 : bits .and .u64 (u : Int) 1 = ((u % 2 : Nat) : Int) := by
    have := u64_and_nat u 1 h (by decide)
    rw [show (1 : Int) = ((1 : Nat) : Int) from rfl, this, Nat.and_one_is_mod]
  have e2 : (u : Int) / 2 = ((u / 2 : Nat) : Int) := by omega
  rw [e1, e2, wrap64_id (by omega) (by omega), wrap64_id (n := ((u % 2 : Nat) : Int)) (by omega) (by omega), wrap64_id (by omega) (by omega)]
  unfold unzz
  split
  · rename_i h0
    rw [h0]
    exact xor_zero _ (by omega)
  · rename_i h0
    have : u % 2 = 1 := by omega
    rw [this]
    exact xor_neg1 _ (by omega)

/-- How many bytes from the first on say that one more comes. -/
def lead : List UInt8 → Nat
  | [] => 0
  | b :: r => if 128 ≤ b.toNat then lead r + 1 else 0
theorem lead_le (xs : List UInt8) : lead xs ≤ xs.length := by
  induction xs with
  | nil => simp [lead]
  | cons x r ih => rw [lead]; split <;> simp <;> omega
theorem lead_more : ∀ (xs : List UInt8) (k : Nat) (c : UInt8), k ≤ lead xs → xs[k]? = some c → 128 ≤ c.toNat → k + 1 ≤ lead xs
  | [], k, c, _, h, _ => by simp at h
  | x :: r, 0, c, _, h, hc => by
    simp at h
    subst h
    rw [lead, if_pos hc]
    omega
  | x :: r, k + 1, c, hk, h, hc => by
    rw [lead] at hk ⊢
    split at hk
    · rename_i hx
      rw [if_pos hx]
      have := lead_more r k c (by omega) (by simpa using h) hc
      omega
    · omega
theorem lead_stop : ∀ (xs : List UInt8) (k : Nat) (c : UInt8), k ≤ lead xs → xs[k]? = some c → c.toNat < 128 → lead xs = k
  | [], k, c, _, h, _ => by simp at h
  | x :: r, 0, c, _, h, hc => by
    simp at h
    subst h
    rw [lead, if_neg (by omega)]
  | x :: r, k + 1, c, hk, h, hc => by
    rw [lead] at hk ⊢
    split at hk
    · rename_i hx
      rw [if_pos hx]
      have := lead_stop r k c (by omega) (by simpa using h) hc
      omega
    · omega

/-- What the bytes from a place on say: the number, the place behind it, the kind of failure. -/
def getAt (rest : List UInt8) (at_ : Nat) : Int × Int × Int :=
  if 10 ≤ lead rest then (0, 0, 5) else if rest.length ≤ lead rest then (0, 0, 4)
  else if vput (vval (rest.take (lead rest + 1)) % 18446744073709551616) = rest.take (lead rest + 1) then (unzz (vval (rest.take (lead rest + 1)) % 18446744073709551616), ((at_ + lead rest + 1 : Nat) : Int), 0) else (0, 0, 5)
def getL (b : List UInt8) (at_ : Int) : Int × Int × Int :=
  if at_ < 0 ∨ (b.length : Int) < at_ then (0, 0, 3) else getAt (b.drop at_.toNat) at_.toNat

theorem vput_lead : ∀ (u : Nat) (r : List UInt8), lead (vput u ++ r) + 1 = (vput u).length := by
  intro u
  induction u using Nat.strongRecOn with
  | _ u ih =>
    intro r
    by_cases h : u < 128
    · rw [vput_lt h]
      have : (UInt8.ofNat u).toNat < 128 := by rw [UInt8.toNat_ofNat']; omega
      simp only [List.singleton_append, lead, List.length_singleton]
      rw [if_neg (by omega)]
    · rw [vput_ge h, List.cons_append, lead]
      have : 128 ≤ (UInt8.ofNat (u % 128 + 128)).toNat := by rw [UInt8.toNat_ofNat']; omega
      rw [if_pos this, ih (u / 128) (by omega), List.length_cons]
theorem vput_val : ∀ (u : Nat), vval (vput u) = u := by
  intro u
  induction u using Nat.strongRecOn with
  | _ u ih =>
    by_cases h : u < 128
    · rw [vput_lt h, vval, vval, UInt8.toNat_ofNat']; omega
    · rw [vput_ge h, vval, ih (u / 128) (by omega), UInt8.toNat_ofNat']; omega
/-- What was put is got. -/
theorem get_put (b : List UInt8) (n : Int) (r : List UInt8) (h0 : -9223372036854775808 ≤ n) (h1 : n ≤ 9223372036854775807) :
    getL (b ++ vput (zz n) ++ r) (b.length : Int) = (n, ((b ++ vput (zz n)).length : Int), 0) := by
  have hl := vput_lead (zz n) r
  have hv := vput_val (zz n)
  have h10 := vput_len10 (zz_lt n h0 h1)
  have hz := zz_lt n h0 h1
  rw [getL, if_neg (by simp; omega), Int.toNat_natCast, List.append_assoc, List.drop_left, getAt, if_neg (by omega), if_neg (by simp; omega)]
  rw [hl, List.take_left, hv, Nat.mod_eq_of_lt hz, if_pos rfl, unzz_zz]
  simp only [Prod.mk.injEq, and_true, true_and, List.length_append]
  omega
end Go.Proofs.YtmlcififmjpcpaaDoor
