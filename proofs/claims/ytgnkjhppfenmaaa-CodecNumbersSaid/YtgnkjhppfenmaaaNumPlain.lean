/- Numbers: what is encoded and decoded, without the program. -/
import Derived.Test.YtgnkjhppfenmaaaEcodecDecode
import Derived.Test.YtgnkjhppfenmaaaSaneFacts
namespace Go.Proofs.Ytgnkjhppfenmaaa.Q
open Go.RowKit Go.Proofs.YtgnkjhppfenmaaaW.PrintWords Go.Proofs.YtgnkjhppfenmaaaW.PrintLast Go.Proofs.YtgnkjhppfenmaaaW.PrintMore
theorem numL_pos (u : Nat) : 1 ≤ (numL u).length := by
  by_cases h : u < 128
  · rw [numL_small h]; simp
  · rw [numL_big h]; simp
theorem numL_len : ∀ (k u : Nat), u < 2 ^ (7 * (k + 1)) → (numL u).length ≤ k + 1
  | 0, u, h => by rw [numL_small (by omega)]; simp
  | k + 1, u, h => by
    by_cases h1 : u < 128
    · rw [numL_small h1]; simp
    · rw [numL_big h1]
      have hp : 2 ^ (7 * (k + 1 + 1)) = 2 ^ (7 * (k + 1)) * 128 := by rw [show 7 * (k + 1 + 1) = 7 * (k + 1) + 7 by omega, Nat.pow_add]
      have := numL_len k (u / 128) (by rw [hp] at h; omega)
      simp; omega
theorem numL_mono : ∀ (n u v : Nat), v ≤ n → u ≤ v → (numL u).length ≤ (numL v).length
  | 0, u, v, h, huv => by rw [show u = v by omega]; exact Nat.le_refl _
  | n + 1, u, v, h, huv => by
    by_cases h1 : u < 128
    · rw [numL_small h1]; exact numL_pos v
    · rw [numL_big h1, numL_big (show ¬ v < 128 by omega)]
      have := numL_mono n (u / 128) (v / 128) (by omega) (by omega)
      simp; omega
theorem numL_bytes : ∀ (n u : Nat), u ≤ n → areBytes (numL u) = true
  | 0, u, h => by rw [numL_small (by omega)]; simp [areBytes]; omega
  | n + 1, u, h => by
    by_cases h1 : u < 128
    · rw [numL_small h1]; simp [areBytes]; omega
    · rw [numL_big h1]
      have := numL_bytes n (u / 128) (by omega)
      unfold areBytes at this ⊢
      rw [List.all_cons, this]
      simp; omega
theorem rdNumA_numL : ∀ (n u : Nat), u ≤ n → ∀ (i : Nat) (acc : Int) (r : List Int), (i = 0 ∨ u ≠ 0) → u * 2 ^ (7 * i) < 2 ^ 64 → i ≤ 9 → rdNumA i acc (numL u ++ r) = some (acc + (u : Int) * 2 ^ (7 * i), r) := by
  intro n
  induction n with
  | zero =>
    intro u hu i acc r hi hb h9
    obtain rfl : u = 0 := by omega
    obtain rfl : i = 0 := by omega
    rw [numL_small (by omega)]
    simp [rdNumA, okAt]
  | succ n ih =>
    intro u hu i acc r hi hb h9
    by_cases h1 : u < 128
    · rw [numL_small h1]
      have hok : okAt i (u : Int) = true := by
        unfold okAt
        have h2 : i < 9 ∨ u ≤ 1 := by
          by_cases h3 : i < 9
          · exact .inl h3
          · obtain rfl : i = 9 := by omega
            right
            have : (2 : Nat) ^ (7 * 9) = 9223372036854775808 := by decide
            omega
        simp
        refine ⟨hi.imp id fun h => by omega, h2.imp id fun h => by omega⟩
      simp only [List.cons_append, List.nil_append, rdNumA, hok, if_true]
      rw [if_pos (by omega), show (u : Int) % 128 = u by omega]
    · rw [numL_big h1]
      have h3 : i < 9 := by
        rcases Nat.lt_or_ge i 9 with h | h
        · exact h
        · obtain rfl : i = 9 := by omega
          have : (2 : Nat) ^ (7 * 9) = 9223372036854775808 := by decide
          omega
      have hok : okAt i ((u % 128 + 128 : Nat) : Int) = true := by
        unfold okAt
        simp
        exact ⟨.inr (by omega), .inl h3⟩
      have hp : (2 : Nat) ^ (7 * (i + 1)) = 2 ^ (7 * i) * 128 := by rw [show 7 * (i + 1) = 7 * i + 7 by omega, Nat.pow_add]
      have hle : u / 128 * 2 ^ (7 * (i + 1)) ≤ u * 2 ^ (7 * i) := by
        rw [hp, show u / 128 * (2 ^ (7 * i) * 128) = (u / 128 * 128) * 2 ^ (7 * i) by rw [Nat.mul_comm (2 ^ (7 * i)) 128, Nat.mul_assoc]]
        exact Nat.mul_le_mul_right _ (by omega)
      simp only [List.cons_append, rdNumA, hok, if_true]
      rw [if_neg (by omega), ih (u / 128) (by omega) (i + 1) _ r (.inr (by omega)) (by omega) (by omega)]
      congr 2
      have e1 : (((u % 128 + 128 : Nat) : Int)) % 128 = ((u % 128 : Nat) : Int) := by omega
      have e2 : ((2 : Int) ^ (7 * (i + 1))) = ((2 ^ (7 * i) : Nat) : Int) * 128 := by rw [show ((2 : Int) ^ (7 * (i + 1))) = ((2 ^ (7 * (i + 1)) : Nat) : Int) by simp, hp]; simp
      have e3 : ((2 : Int) ^ (7 * i)) = ((2 ^ (7 * i) : Nat) : Int) := by simp
      rw [e1, e2, e3]
      have e4 : (u : Int) = ((u % 128 : Nat) : Int) + ((u / 128 : Nat) : Int) * 128 := by omega
      rw [show (u : Int) * ((2 ^ (7 * i) : Nat) : Int) = (((u % 128 : Nat) : Int) + ((u / 128 : Nat) : Int) * 128) * ((2 ^ (7 * i) : Nat) : Int) by rw [← e4]]
      rw [Int.add_mul, Int.mul_assoc ((u / 128 : Nat) : Int) 128, Int.mul_comm 128, Int.add_assoc]
theorem rdNum_numL (u : Nat) (h : u < 2 ^ 64) (r : List Int) : rdNum (numL u ++ r) = some ((u : Int), r) := by
  unfold rdNum
  rw [rdNumA_numL u u (Nat.le_refl _) 0 0 r (.inl rfl) (by simpa using h) (by omega)]
  simp
theorem unsG_eq (n : Int) (h0 : -9223372036854775808 ≤ n) (h1 : n ≤ 9223372036854775807) : unsG n = uns n := Option.some.inj ((unsG_some n).symm.trans (unsigned_eq n h0 h1))
theorem i64w' (n : Int) (h0 : -9223372036854775808 ≤ n) (h1 : n ≤ 9223372036854775807) : IntKind.i64.wrap n = n := by rw [i64_w]; unfold wrap64; omega
theorem xor_zero_i64 (x : Int) (h0 : 0 ≤ x) (h1 : x ≤ 9223372036854775807) : Go.bits .xor .i64 x 0 = x := by
  obtain ⟨n, rfl⟩ := Int.eq_ofNat_of_zero_le h0
  have hn : n < 18446744073709551616 := by omega
  have e : (BitVec.ofInt 64 (n : Int) ^^^ BitVec.ofInt 64 0) = BitVec.ofNat 64 n := by
    rw [show BitVec.ofInt 64 0 = 0#64 from rfl, BitVec.xor_zero, BitVec.ofInt_natCast]
  have e2 : (BitVec.ofInt 64 (n : Int) ^^^ BitVec.ofInt 64 0).toNat = n := by rw [e, BitVec.toNat_ofNat]; exact Nat.mod_eq_of_lt hn
  show IntKind.i64.wrap ((BitVec.ofInt 64 (n : Int) ^^^ BitVec.ofInt 64 0).toNat : Int) = _
  rw [e2]
  exact i64w' _ (by omega) (by omega)
theorem xor_ones_i64 (x : Int) (h0 : 0 ≤ x) (h1 : x ≤ 9223372036854775807) : Go.bits .xor .i64 x (-1) = -1 - x := by
  obtain ⟨n, rfl⟩ := Int.eq_ofNat_of_zero_le h0
  have hn : n < 18446744073709551616 := by omega
  have e2 : (BitVec.ofInt 64 (n : Int) ^^^ BitVec.ofInt 64 (-1)).toNat = 18446744073709551615 - n := by
    rw [show BitVec.ofInt 64 (-1) = BitVec.allOnes 64 from rfl, BitVec.xor_allOnes, BitVec.toNat_not, BitVec.ofInt_natCast, BitVec.toNat_ofNat, Nat.mod_eq_of_lt hn]
  show IntKind.i64.wrap ((BitVec.ofInt 64 (n : Int) ^^^ BitVec.ofInt 64 (-1)).toNat : Int) = _
  rw [e2, i64_w]
  unfold wrap64
  omega
theorem and1 (u : Nat) (h : u < 2 ^ 64) : Go.bits .and .u64 (u : Int) 1 = ((u % 2 : Nat) : Int) := by
  have := Go.bits_mask .u64 64 (by decide) wraps_u64 1 (by decide) (u : Int) (by omega) (by omega)
  exact this.trans (by omega)
theorem sgn_uns (n : Int) (h0 : -9223372036854775808 ≤ n) (h1 : n ≤ 9223372036854775807) : sgnG (uns n) = n := by
  have hu : 0 ≤ uns n ∧ uns n < 18446744073709551616 := by unfold uns; split <;> omega
  obtain ⟨u, hu2⟩ := Int.eq_ofNat_of_zero_le hu.1
  unfold sgnG
  rw [hu2, and1 u (by omega)]
  unfold uns at hu2
  split at hu2
  · rw [show u % 2 = 0 by omega, show wrap64 (-(wrap64 ((0 : Nat) : Int))) = 0 by simp [wrap64], show wrap64 ((u : Int) / 2) = (u : Int) / 2 by unfold wrap64; omega, xor_zero_i64 _ (by omega) (by omega)]
    omega
  · rw [show u % 2 = 1 by omega, show wrap64 (-(wrap64 ((1 : Nat) : Int))) = -1 by simp [wrap64], show wrap64 ((u : Int) / 2) = (u : Int) / 2 by unfold wrap64; omega, xor_ones_i64 _ (by omega) (by omega)]
    omega
end Go.Proofs.Ytgnkjhppfenmaaa.Q
