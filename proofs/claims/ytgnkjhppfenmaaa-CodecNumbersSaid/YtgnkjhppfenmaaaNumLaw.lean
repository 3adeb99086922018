/- CodecNumbers: what the law computes is true. -/
import Derived.Test.YtgnkjhppfenmaaaNumPlain
import Derived.Test.YtgnkjhppfenmaaaQsizarlaw01CodecNumbers
namespace Go.Proofs.Ytgnkjhppfenmaaa.Q
open Go.RowKit Go.Proofs.YtgnkjhppfenmaaaW.PrintWords Go.Proofs.YtgnkjhppfenmaaaW.PrintLast Go.Proofs.YtgnkjhppfenmaaaW.PrintMore
/-- the bytes of a number's encoding -/
def numE (n : Int) : List Int := 1 :: numL (uns n).toNat
theorem uns_range (n : Int) (h0 : -9223372036854775808 ≤ n) (h1 : n ≤ 9223372036854775807) : 0 ≤ uns n ∧ uns n < 18446744073709551616 := by unfold uns; split <;> omega
theorem numE_len (n : Int) (h0 : -9223372036854775808 ≤ n) (h1 : n ≤ 9223372036854775807) : 2 ≤ (numE n).length ∧ (numE n).length ≤ 11 := by
  have hu := uns_range n h0 h1
  have h2 := numL_pos (uns n).toNat
  have h3 := numL_len 9 (uns n).toNat (by have : (2 : Nat) ^ (7 * (9 + 1)) = 1180591620717411303424 := by decide
                                          omega)
  unfold numE
  simp
  omega
theorem enc_number (n : Int) (h0 : -9223372036854775808 ≤ n) (h1 : n ≤ 9223372036854775807) : codec_Encode.f 1 n ⟨#[]⟩ [] = some (numE n, 0) := by
  unfold codec_Encode.f
  rw [if_pos (check_one n), encV_one, unsG_eq n h0 h1]
  have h2 := (numE_len n h0 h1).2
  unfold numE at h2 ⊢
  rw [if_pos (by omega)]
theorem size_number (n : Int) (h0 : -9223372036854775808 ≤ n) (h1 : n ≤ 9223372036854775807) : codec_Size.f 1 n ⟨#[]⟩ [] = some (((numE n).length : Int), 0) := by
  unfold codec_Size.f
  rw [enc_number n h0 h1]
  rfl
theorem dec_number (n : Int) (h0 : -9223372036854775808 ≤ n) (h1 : n ≤ 9223372036854775807) : codec_Decode.f (numE n) = some (1, n, ⟨#[]⟩, [], 0) := by
  unfold codec_Decode.f
  have hu := uns_range n h0 h1
  have h2 := (numE_len n h0 h1).2
  have hb : areBytes (numE n) = true := by
    have := numL_bytes (uns n).toNat (uns n).toNat (Nat.le_refl _)
    unfold areBytes at this
    unfold numE areBytes
    rw [List.all_cons, this]
    rfl
  rw [if_pos ⟨by omega, hb⟩]
  have hd : decV (numE n) = some ⟨1, n, ⟨#[]⟩, []⟩ := by
    have h3 := rdNum_numL (uns n).toNat (by omega) []
    rw [List.append_nil] at h3
    unfold decV numE
    rw [rdVal, if_pos rfl, h3]
    simp only
    rw [show (((uns n).toNat : Nat) : Int) = uns n by omega, sgn_uns n h0 h1]
  rw [hd]
theorem numE_mono (a b : Int) (ha0 : -9223372036854775808 ≤ a) (ha1 : a ≤ 9223372036854775807) (hb0 : -9223372036854775808 ≤ b) (hb1 : b ≤ 9223372036854775807) (h : uns a ≤ uns b) : (numE a).length ≤ (numE b).length := by
  have := numL_mono (uns b).toNat (uns a).toNat (uns b).toNat (Nat.le_refl _) (by have := (uns_range a ha0 ha1).1; omega)
  unfold numE
  simp
  omega
attribute [local irreducible] codec_Encode.f codec_Decode.f codec_Size.f numE in
set_option maxHeartbeats 4000000 in
theorem numbers_true (a b : Int) (ha0 : -9223372036854775808 ≤ a) (ha1 : a ≤ 9223372036854775807) (hb0 : -9223372036854775808 ≤ b) (hb1 : b ≤ 9223372036854775807) : sizarlaw01_CodecNumbers.f a b = some true := by
  unfold sizarlaw01_CodecNumbers.f sizarlaw01_sane.f sizarref01_Int.f
  simp only [Option.bind_some, enc_number a ha0 ha1, size_number a ha0 ha1, size_number b hb0 hb1, dec_number a ha0 ha1, nil_list, if_true, List.length_nil]
  have h1 := numE_len a ha0 ha1
  have h2 := numE_len b hb0 hb1
  have h3 : 0 ≤ a → a ≤ b → (numE a).length ≤ (numE b).length := fun h k => numE_mono a b ha0 ha1 hb0 hb1 (by unfold uns; split <;> split <;> omega)
  have h4 : a < 0 → b ≤ a → (numE a).length ≤ (numE b).length := fun h k => numE_mono a b ha0 ha1 hb0 hb1 (by unfold uns; split <;> split <;> omega)
  generalize (numE a).length = m at *
  generalize (numE b).length = n at *
  repeat' split
  all_goals first | rfl | (exfalso; omega) | simp
end Go.Proofs.Ytgnkjhppfenmaaa.Q
