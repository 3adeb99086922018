/- The plain functions of decoding (layer 1). -/
import Derived.Test.YtgnkjhppfenmaaaSpec01
import Derived.Test.YtgnkjhppfenmaaaQcodecsigned
namespace Go.Proofs.Ytgnkjhppfenmaaa.Q
open Go.RowKit Go.Proofs.YtgnkjhppfenmaaaW.PrintWords Go.Proofs.YtgnkjhppfenmaaaW.PrintLast Go.Proofs.YtgnkjhppfenmaaaW.PrintMore
/-- may this byte stand at place i of a numeral? -/
def okAt (i : Nat) (c : Int) : Bool := (decide (i = 0) || decide (c ≠ 0)) && (decide (i < 9) || decide (c ≤ 1))
/-- a numeral, from place i on: the sum so far -/
def rdNumA : Nat → Int → List Int → Option (Int × List Int)
  | _, _, [] => none
  | i, u, c :: r => if okAt i c = true then (if c < 128 then some (u + c % 128 * 2 ^ (7 * i), r) else rdNumA (i + 1) (u + c % 128 * 2 ^ (7 * i)) r) else none
def rdNum (xs : List Int) : Option (Int × List Int) := rdNumA 0 0 xs
/-- a numeral that says how many bytes or elements follow -/
def rdLen (xs : List Int) : Option (Nat × List Int) := match rdNum xs with | some (u, r) => if u ≤ (r.length : Int) then some (u.toNat, r) else none | none => none
/-- so many values, one behind the other -/
def rdMany (f : List Int → Option (S24 × List Int)) : Nat → List Int → Option (List S24 × List Int)
  | 0, xs => some ([], xs)
  | m + 1, xs => match f xs with | some (v, r) => (match rdMany f m r with | some (l, r2) => some (v :: l, r2) | none => none) | none => none
/-- the signed form of a number -/
def sgnG (u : Int) : Int := Go.bits .xor .i64 (wrap64 (u / 2)) (wrap64 (-(wrap64 (Go.bits .and .u64 u 1))))
/-- a value within so many lists more -/
def rdVal : Nat → List Int → Option (S24 × List Int)
  | _, [] => none
  | n, k :: r =>
    if k = 1 then (match rdNum r with | some (u, r2) => some (⟨1, sgnG u, ⟨#[]⟩, []⟩, r2) | none => none)
    else if k = 2 then (match rdLen r with | some (m, r2) => some (⟨2, 0, strOfNums (r2.take m), []⟩, r2.drop m) | none => none)
    else if k = 3 then (match n with
      | 0 => none
      | n + 1 => match rdLen r with | some (m, r2) => (match rdMany (rdVal n) m r2 with | some (l, r3) => some (⟨3, 0, ⟨#[]⟩, l⟩, r3) | none => none) | none => none)
    else none
/-- the value with an encoding -/
def decV (xs : List Int) : Option S24 := match rdVal 16 xs with | some (v, []) => some v | _ => none
/-- are these bytes? -/
def areBytes (xs : List Int) : Bool := xs.all fun x => decide (0 ≤ x) && decide (x ≤ 255)
theorem byte_of {xs : List Int} (h : areBytes xs = true) {x : Int} (hx : x ∈ xs) : 0 ≤ x ∧ x ≤ 255 := by
  have := List.all_eq_true.1 h x hx
  simpa using this
theorem bytes_drop {xs : List Int} (h : areBytes xs = true) (n : Nat) : areBytes (xs.drop n) = true :=
  List.all_eq_true.2 fun x hx => List.all_eq_true.1 h x (List.mem_of_mem_drop hx)
theorem bytes_tail {c : Int} {xs : List Int} (h : areBytes (c :: xs) = true) : areBytes xs = true := bytes_drop h 1
theorem bytes_head {c : Int} {xs : List Int} (h : areBytes (c :: xs) = true) : 0 ≤ c ∧ c ≤ 255 := byte_of h List.mem_cons_self
theorem rdNumA_len : ∀ (xs : List Int) (i : Nat) (u : Int) (v : Int) (ys : List Int), rdNumA i u xs = some (v, ys) → ys.length < xs.length
  | [], _, _, _, _, h => by cases h
  | c :: xs, i, u, v, ys, h => by
    rw [rdNumA] at h
    split at h
    · split at h
      · cases h
        simp
      · have := rdNumA_len xs _ _ _ _ h
        simp; omega
    · cases h
theorem rdLen_len {xs : List Int} {m : Nat} {ys : List Int} (h : rdLen xs = some (m, ys)) : ys.length < xs.length ∧ m ≤ ys.length := by
  unfold rdLen at h
  split at h
  · next u r hr =>
    split at h
    · cases h
      exact ⟨rdNumA_len _ _ _ _ _ hr, by omega⟩
    · cases h
  · cases h
theorem rdMany_len {f : List Int → Option (S24 × List Int)} (hf : ∀ xs v r, f xs = some (v, r) → r.length ≤ xs.length) : ∀ (m : Nat) (xs : List Int) (l : List S24) (r : List Int), rdMany f m xs = some (l, r) → r.length ≤ xs.length
  | 0, xs, l, r, h => by cases h; exact Nat.le_refl _
  | m + 1, xs, l, r, h => by
    rw [rdMany] at h
    split at h
    · next v r1 h1 =>
      split at h
      · next l2 r2 h2 =>
        cases h
        have := hf _ _ _ h1
        have := rdMany_len hf m _ _ _ h2
        omega
      · cases h
    · cases h
theorem rdVal_len : ∀ (n : Nat) (xs : List Int) (v : S24) (r : List Int), rdVal n xs = some (v, r) → r.length ≤ xs.length := by
  intro n
  induction n with
  | zero =>
    intro xs v r h
    cases xs with
    | nil => cases h
    | cons k xs =>
      rw [rdVal] at h
      split at h
      · split at h
        · next u r2 h2 => cases h; have := rdNumA_len _ _ _ _ _ h2; simp; omega
        · cases h
      · split at h
        · split at h
          · next m r2 h2 => cases h; have := (rdLen_len h2).1; simp; omega
          · cases h
        · split at h <;> cases h
  | succ n ih =>
    intro xs v r h
    cases xs with
    | nil => cases h
    | cons k xs =>
      rw [rdVal] at h
      split at h
      · split at h
        · next u r2 h2 => cases h; have := rdNumA_len _ _ _ _ _ h2; simp; omega
        · cases h
      · split at h
        · split at h
          · next m r2 h2 => cases h; have := (rdLen_len h2).1; simp; omega
          · cases h
        · split at h
          · split at h
            · next m r2 h2 =>
              split at h
              · next l r3 h3 =>
                cases h
                have := (rdLen_len h2).1
                have := rdMany_len ih _ _ _ _ h3
                simp; omega
              · cases h
            · cases h
          · cases h
/-- the sum with one digit more, as the code has it -/
def accG (i : Nat) (u c : Int) : Int := Go.bits .or .u64 u (IntKind.u64.wrap (IntKind.u64.wrap (Go.bits .and .u8 c 127) * 2 ^ (7 * i)))
theorem wraps_u64 (n : Int) (h0 : 0 ≤ n) (h1 : n < 2 ^ 64) : IntKind.u64.wrap n = n := by rw [u64w]; omega
theorem and127 (c : Int) (h0 : 0 ≤ c) (h1 : c ≤ 255) : Go.bits .and .u8 c 127 = c % 128 := Go.bits_mask .u8 8 (by decide) wraps_u8 7 (by decide) c h0 (by omega)
theorem pow_le_64 (i : Nat) (h : i ≤ 9) : (2 : Nat) ^ (7 * i) ≤ 2 ^ 63 := Nat.pow_le_pow_right (by decide) (by omega)
theorem digit_bound (i : Nat) (c : Int) (hi : i ≤ 9) (h0 : 0 ≤ c) (h1 : c ≤ 255) (h9 : i < 9 ∨ c ≤ 1) : (c % 128).toNat * 2 ^ (7 * i) + 2 ^ (7 * i) ≤ 2 ^ 64 := by
  rcases h9 with h9 | h9
  · have hp : (2 : Nat) ^ (7 * i) ≤ 2 ^ 56 := Nat.pow_le_pow_right (by decide) (by omega)
    have hc : (c % 128).toNat ≤ 127 := by omega
    calc (c % 128).toNat * 2 ^ (7 * i) + 2 ^ (7 * i) ≤ 127 * 2 ^ 56 + 2 ^ 56 := Nat.add_le_add (Nat.mul_le_mul hc hp) hp
      _ ≤ 2 ^ 64 := by decide
  · have hp := pow_le_64 i hi
    have hc : (c % 128).toNat ≤ 1 := by omega
    calc (c % 128).toNat * 2 ^ (7 * i) + 2 ^ (7 * i) ≤ 1 * 2 ^ 63 + 2 ^ 63 := Nat.add_le_add (Nat.mul_le_mul hc hp) hp
      _ ≤ 2 ^ 64 := by decide
theorem acc_eq (i : Nat) (u c : Int) (hi : i ≤ 9) (hu0 : 0 ≤ u) (hu : u < 2 ^ (7 * i)) (h0 : 0 ≤ c) (h1 : c ≤ 255) (h9 : i < 9 ∨ c ≤ 1) : accG i u c = u + c % 128 * 2 ^ (7 * i) := by
  have hb := digit_bound i c hi h0 h1 h9
  obtain ⟨a, rfl⟩ := Int.eq_ofNat_of_zero_le hu0
  obtain ⟨d, hd⟩ := Int.eq_ofNat_of_zero_le (show 0 ≤ c % 128 by omega)
  have ha : a < 2 ^ (7 * i) := by exact_mod_cast hu
  have hpos : 0 < 2 ^ (7 * i) := Nat.two_pow_pos _
  unfold accG
  rw [and127 c h0 h1, hd]
  rw [hd, show ((d : Nat) : Int).toNat = d from rfl] at hb
  have hd2 : d * 2 ^ (7 * i) < 2 ^ 64 := by omega
  have e1 : IntKind.u64.wrap (d : Int) = (d : Int) := wraps_u64 _ (by omega) (by omega)
  have e2 : ((d : Int) * 2 ^ (7 * i)) = ((d * 2 ^ (7 * i) : Nat) : Int) := by simp
  have e3 : IntKind.u64.wrap ((d * 2 ^ (7 * i) : Nat) : Int) = ((d * 2 ^ (7 * i) : Nat) : Int) := wraps_u64 _ (by omega) (by exact_mod_cast hd2)
  rw [e1, e2, e3, (Go.bits_nat .u64 64 (by decide) wraps_u64 a (d * 2 ^ (7 * i)) (by omega) hd2).2]
  rw [Nat.or_comm, Nat.mul_comm d, ← Nat.two_pow_add_eq_or_of_lt ha d]
  push_cast
  omega
theorem acc_bound (i : Nat) (u c : Int) (hu0 : 0 ≤ u) (hu : u < 2 ^ (7 * i)) : 0 ≤ u + c % 128 * 2 ^ (7 * i) ∧ u + c % 128 * 2 ^ (7 * i) < 2 ^ (7 * (i + 1)) := by
  have hp : (0 : Int) < 2 ^ (7 * i) := by exact_mod_cast Nat.two_pow_pos (7 * i)
  have h1 : 0 ≤ c % 128 * 2 ^ (7 * i) := Int.mul_nonneg (by omega) (by omega)
  have h2 : c % 128 * 2 ^ (7 * i) ≤ 127 * 2 ^ (7 * i) := Int.mul_le_mul_of_nonneg_right (by omega) (by omega)
  have h3 : (2 : Int) ^ (7 * (i + 1)) = 128 * 2 ^ (7 * i) := by
    rw [show 7 * (i + 1) = 7 * i + 7 by omega, Int.pow_add]
    omega
  rw [h3]
  omega
end Go.Proofs.Ytgnkjhppfenmaaa.Q
