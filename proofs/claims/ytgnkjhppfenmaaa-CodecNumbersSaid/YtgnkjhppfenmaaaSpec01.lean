/- The plain functions of layer 1 (codec): what the walks say is computed; no program in sight. -/
import Derived.Test.YtgnkjhppfenmaaaQ0
import Derived.Test.YtgnkjhppfenmaaaQcodecnumeral
import Derived.Test.YtgnkjhppfenmaaaQcodecunsigned
import Derived.Laws.BitsLemmas
namespace Go.Proofs.Ytgnkjhppfenmaaa.Q
open Go.RowKit Go.Proofs.YtgnkjhppfenmaaaW.PrintWords Go.Proofs.YtgnkjhppfenmaaaW.PrintLast Go.Proofs.YtgnkjhppfenmaaaW.PrintMore

/-- is the part of a value that its kind does not use empty? -/
def usedV (k n : Int) (s : ByteArray) (m : Nat) : Bool :=
  if k = 1 then s.toList.isEmpty && m == 0 else if k = 2 then n == 0 && m == 0 else if k = 3 then n == 0 && s.toList.isEmpty else false

mutual
/-- depth and well-formedness -/
def formedV : S24 → Int × Bool
  | ⟨k, n, s, l⟩ => if usedV k n s l.length = true then (if k = 3 then match formedL l 0 with | some d => (wrap64 (d + 1), true) | none => (0, false) else (0, true)) else (0, false)
def formedL : List S24 → Int → Option Int
  | [], d => some d
  | x :: r, d => match formedV x with | (n, true) => formedL r (if d < n then n else d) | (_, false) => none
end
theorem usedV_one (n : Int) (s : ByteArray) (m : Nat) : usedV 1 n s m = (s.toList.isEmpty && (m : Int) == 0) := by
  unfold usedV; rw [if_pos rfl]; congr 1
  rw [Bool.eq_iff_iff]; simp
theorem usedV_two (n : Int) (s : ByteArray) (m : Nat) : usedV 2 n s m = (n == 0 && (m : Int) == 0) := by
  unfold usedV; rw [if_neg (by decide), if_pos rfl]; congr 1
  rw [Bool.eq_iff_iff]; simp
theorem usedV_three (n : Int) (s : ByteArray) (m : Nat) : usedV 3 n s m = (n == 0 && s.toList.isEmpty) := by
  unfold usedV; rw [if_neg (by decide), if_neg (by decide), if_pos rfl]
theorem usedV_out (k n : Int) (s : ByteArray) (m : Nat) (h : k < 1 ∨ 3 < k) : usedV k n s m = false := by
  unfold usedV; rw [if_neg (by omega), if_neg (by omega), if_neg (by omega)]
theorem formedV_not {k n : Int} {s : ByteArray} {l : List S24} (h : usedV k n s l.length = false) : formedV ⟨k, n, s, l⟩ = (0, false) := by
  rw [formedV, h]; rfl
theorem formedV_plain {k n : Int} {s : ByteArray} {l : List S24} (h : usedV k n s l.length = true) (hk : k ≠ 3) : formedV ⟨k, n, s, l⟩ = (0, true) := by
  rw [formedV, h, if_pos rfl, if_neg hk]
theorem formedV_none {n : Int} {s : ByteArray} {l : List S24} (h : usedV 3 n s l.length = true) (hl : formedL l 0 = none) : formedV ⟨3, n, s, l⟩ = (0, false) := by
  rw [formedV, h, if_pos rfl, if_pos rfl, hl]
theorem formedV_some {n d : Int} {s : ByteArray} {l : List S24} (h : usedV 3 n s l.length = true) (hl : formedL l 0 = some d) : formedV ⟨3, n, s, l⟩ = (wrap64 (d + 1), true) := by
  rw [formedV, h, if_pos rfl, if_pos rfl, hl]
theorem rd_mem (l : List S24) (i : Int) (h0 : 0 ≤ i) (h : i < l.length) : rd_T24 l i ∈ l := by
  have hn : i.toNat < l.length := by omega
  unfold rd_T24; rw [List.getD_eq_getElem?_getD, List.getElem?_eq_getElem hn]; exact List.getElem_mem hn
theorem drop_rd (l : List S24) (i : Int) (h0 : 0 ≤ i) (h : i < l.length) : l.drop i.toNat = rd_T24 l i :: l.drop (i + 1).toNat := by
  have hn : i.toNat < l.length := by omega
  rw [List.drop_eq_getElem_cons hn, show (i + 1).toNat = i.toNat + 1 by omega]; unfold rd_T24; rw [List.getD_eq_getElem?_getD, List.getElem?_eq_getElem hn]; rfl
theorem wrap_at (i : Int) (n : Nat) (h0 : 0 ≤ i) (h : i < n) (hn : n ≤ 9223372036854775807) : wrap64 (i + 1) = i + 1 := by unfold wrap64; omega

/-! numerals -/
/-- the bytes of a number, the lowest seven bits first -/
def numL (u : Nat) : List Int := if h : u < 128 then [(u : Int)] else ((u % 128 + 128 : Nat) : Int) :: numL (u / 128)
termination_by u
theorem numL_small {u : Nat} (h : u < 128) : numL u = [(u : Int)] := by rw [numL, dif_pos h]
theorem numL_big {u : Nat} (h : ¬ u < 128) : numL u = ((u % 128 + 128 : Nat) : Int) :: numL (u / 128) := by rw [numL, dif_neg h]
/-- the unsigned form of an integer, as the code has it -/
def unsG (n : Int) : Int := Go.bits .xor .u64 (IntKind.u64.wrap ((IntKind.u64.wrap (n)) * 2)) (IntKind.u64.wrap (n / 9223372036854775808))
theorem unsG_some (n : Int) : codec_unsigned.f n = some (unsG n) := rfl
theorem unsG_range (n : Int) : 0 ≤ unsG n ∧ unsG n < 18446744073709551616 := by
  have e : ∀ z : Int, 0 ≤ IntKind.u64.wrap z ∧ IntKind.u64.wrap z < 18446744073709551616 := fun z => by
    have : IntKind.u64.wrap z = z % 18446744073709551616 := by simp [IntKind.wrap, IntKind.bits, IntKind.signed]
    omega
  exact e _
/-- the unsigned form of an integer -/
def uns (n : Int) : Int := if 0 ≤ n then 2 * n else -2 * n - 1
set_option maxRecDepth 20000 in
theorem or128_nat : ∀ y : Fin 256, (y.val ||| 128) = y.val % 128 + 128 := by decide
theorem or128 (x : Int) (h0 : 0 ≤ x) (h1 : x < 256) : Go.bits .or .u8 x 128 = x % 128 + 128 := by
  obtain ⟨n, rfl⟩ := Int.eq_ofNat_of_zero_le h0
  have hb := (Go.bits_nat .u8 8 (by decide) wraps_u8 n 128 (by omega) (by decide)).2
  have e := or128_nat ⟨n, by omega⟩
  simp only at e
  rw [e] at hb
  exact hb.trans (by omega)
theorem u64w (n : Int) : IntKind.u64.wrap n = n % 18446744073709551616 := by simp [IntKind.wrap, IntKind.bits, IntKind.signed]
theorem xor_zero64 (x : Int) (h0 : 0 ≤ x) (h1 : x < 18446744073709551616) : Go.bits .xor .u64 x 0 = x := by
  obtain ⟨n, rfl⟩ := Int.eq_ofNat_of_zero_le h0
  have hn : n < 18446744073709551616 := by omega
  show IntKind.u64.wrap _ = _
  rw [u64w]
  have e : (BitVec.ofInt 64 (n : Int) ^^^ BitVec.ofInt 64 0).toNat = n := by
    rw [show BitVec.ofInt 64 0 = 0#64 from rfl, BitVec.xor_zero, BitVec.ofInt_natCast, BitVec.toNat_ofNat]
    exact Nat.mod_eq_of_lt hn
  show ((BitVec.ofInt 64 (n : Int) ^^^ BitVec.ofInt 64 0).toNat : Int) % _ = _
  rw [e]
  omega
theorem xor_ones64 (x : Int) (h0 : 0 ≤ x) (h1 : x < 18446744073709551616) : Go.bits .xor .u64 x 18446744073709551615 = 18446744073709551615 - x := by
  obtain ⟨n, rfl⟩ := Int.eq_ofNat_of_zero_le h0
  have hn : n < 18446744073709551616 := by omega
  show IntKind.u64.wrap _ = _
  rw [u64w]
  have e : (BitVec.ofInt 64 (n : Int) ^^^ BitVec.ofInt 64 18446744073709551615).toNat = 18446744073709551615 - n := by
    rw [show BitVec.ofInt 64 18446744073709551615 = BitVec.allOnes 64 from rfl, BitVec.xor_allOnes, BitVec.toNat_not, BitVec.ofInt_natCast, BitVec.toNat_ofNat, Nat.mod_eq_of_lt hn]
  show ((BitVec.ofInt 64 (n : Int) ^^^ BitVec.ofInt 64 18446744073709551615).toNat : Int) % _ = _
  rw [e]
  omega
theorem unsigned_eq (n : Int) (h0 : -9223372036854775808 ≤ n) (h1 : n ≤ 9223372036854775807) : codec_unsigned.f n = some (uns n) := by
  unfold codec_unsigned.f uns
  rw [u64w, u64w, u64w]
  by_cases h : 0 ≤ n
  · rw [if_pos h, show n / 9223372036854775808 % 18446744073709551616 = 0 by omega, xor_zero64 _ (by omega) (by omega)]
    congr 1
    omega
  · rw [if_neg h, show n / 9223372036854775808 % 18446744073709551616 = 18446744073709551615 by omega, xor_ones64 _ (by omega) (by omega)]
    congr 1
    omega
theorem numeral_ev (n : Nat) : ∀ (u : Nat) (l : List Int), u ≤ n → l.length + (numL u).length < 140737488355328 → ∃ k, codec_numeral.f k l (u : Int) = some (l ++ numL u) := by
  unfold codec_numeral.f
  induction n with
  | zero =>
    intro u l hu hl
    refine ⟨1, ?_⟩
    rw [numL_small (by omega)] at hl ⊢
    rw [codec_numeral.l0, if_neg (by omega), if_pos (by simp at hl; omega)]
    congr 3
    omega
  | succ n ih =>
    intro u l hu hl
    by_cases h : u < 128
    · refine ⟨1, ?_⟩
      rw [numL_small h] at hl ⊢
      rw [codec_numeral.l0, if_neg (by omega), if_pos (by simp at hl; omega)]
      congr 3
      omega
    · rw [numL_big h] at hl ⊢
      obtain ⟨k, hk⟩ := ih (u / 128) (l ++ [((u % 128 + 128 : Nat) : Int)]) (by omega) (by simp at hl ⊢; omega)
      refine ⟨k + 1, ?_⟩
      rw [codec_numeral.l0, if_pos (by omega), if_pos (by simp at hl; omega), or128 _ (by omega) (by omega)]
      have e1 : ((u : Int) % 256) % 128 + 128 = ((u % 128 + 128 : Nat) : Int) := by omega
      have e2 : (u : Int) / 128 = ((u / 128 : Nat) : Int) := by omega
      rw [e1, e2, hk]
      simp

mutual
/-- the encoding of a well-formed value -/
def encV : S24 → List Int
  | ⟨k, n, s, l⟩ => if k = 1 then 1 :: numL (unsG n).toNat else if k = 2 then 2 :: (numL s.size ++ bytesOf s) else 3 :: (numL l.length ++ encL l)
def encL : List S24 → List Int
  | [] => []
  | x :: r => encV x ++ encL r
end
theorem kind_of_formed {x : S24} (h : (formedV x).2 = true) : x.f0 = 1 ∨ x.f0 = 2 ∨ x.f0 = 3 := by
  obtain ⟨k, n, s, l⟩ := x
  by_cases h1 : k = 1
  · exact .inl h1
  by_cases h2 : k = 2
  · exact .inr (.inl h2)
  by_cases h3 : k = 3
  · exact .inr (.inr h3)
  have : formedV ⟨k, n, s, l⟩ = (0, false) := formedV_not (by unfold usedV; rw [if_neg h1, if_neg h2, if_neg h3])
  rw [this] at h
  cases h
theorem formedL_all : ∀ (l : List S24) (d r : Int), formedL l d = some r → ∀ x ∈ l, (formedV x).2 = true
  | [], _, _, _, x, hx => by cases hx
  | y :: l, d, r, h, x, hx => by
    rw [formedL] at h
    cases e : formedV y with
    | mk n ok =>
      rw [e] at h
      cases ok with
      | false => cases h
      | true =>
        rcases List.mem_cons.1 hx with rfl | hx
        · rw [e]
        · exact formedL_all l _ r h x hx
theorem formed_list {n : Int} {s : ByteArray} {l : List S24} (h : (formedV ⟨3, n, s, l⟩).2 = true) : ∀ x ∈ l, (formedV x).2 = true := by
  rw [formedV] at h
  split at h
  · rw [if_pos rfl] at h
    split at h
    · next d hd => exact formedL_all l 0 d hd
    · cases h
  · cases h
theorem encV_one (n : Int) (s : ByteArray) (l : List S24) : encV ⟨1, n, s, l⟩ = 1 :: numL (unsG n).toNat := by rw [encV, if_pos rfl]
theorem encV_two (n : Int) (s : ByteArray) (l : List S24) : encV ⟨2, n, s, l⟩ = 2 :: (numL s.size ++ bytesOf s) := by rw [encV, if_neg (by decide), if_pos rfl]
theorem encV_three (n : Int) (s : ByteArray) (l : List S24) : encV ⟨3, n, s, l⟩ = 3 :: (numL l.length ++ encL l) := by rw [encV, if_neg (by decide), if_neg (by decide)]
end Go.Proofs.Ytgnkjhppfenmaaa.Q
