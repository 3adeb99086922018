/- The values that the chapter's examples have. -/
import Derived.Test.YtgnkjhppfenmaaaEcodecEncode
import Derived.Test.YtgnkjhppfenmaaaEcodecDecode
import Derived.Test.YtgnkjhppfenmaaaEcodecSame
import Derived.Test.YtgnkjhppfenmaaaQcodecSize
import Derived.Test.YtgnkjhppfenmaaaQcodecCheck
namespace Go.Proofs.Ytgnkjhppfenmaaa.Q
open Go.RowKit Go.Proofs.YtgnkjhppfenmaaaW.PrintWords Go.Proofs.YtgnkjhppfenmaaaW.PrintLast Go.Proofs.YtgnkjhppfenmaaaW.PrintMore
def sx : S24 := ⟨1, 100, ⟨#[]⟩, []⟩
def sy : S24 := ⟨2, 0, ⟨#[97, 98]⟩, []⟩
theorem nil_list : (⟨#[]⟩ : ByteArray).toList = [] := by
  unfold ByteArray.toList
  unfold ByteArray.toList.loop
  rfl
theorem fv_one (n : Int) : formedV ⟨1, n, ⟨#[]⟩, []⟩ = (0, true) := formedV_plain (by rw [usedV_one, nil_list]; rfl) (by decide)
theorem fv_sy : formedV sy = (0, true) := formedV_plain rfl (by decide)
theorem fv_list : formedV ⟨3, 0, ⟨#[]⟩, [sx, sy]⟩ = (1, true) := by
  rw [formedV_some (d := 0) (by rw [usedV_three, nil_list]; rfl) (by simp [formedL, fv_sy, sx, fv_one])]; simp [wrap64]
theorem check_one (n : Int) : checkV ⟨1, n, ⟨#[]⟩, []⟩ = 0 := by unfold checkV; rw [fv_one]; rfl
theorem check_list : checkV ⟨3, 0, ⟨#[]⟩, [sx, sy]⟩ = 0 := by unfold checkV; rw [fv_list]; rfl
theorem uns3 : (unsG (-3)).toNat = 5 := by decide
theorem uns100 : (unsG 100).toNat = 200 := by decide
theorem num5 : numL 5 = [5] := numL_small (by decide)
theorem num2 : numL 2 = [2] := numL_small (by decide)
theorem num200 : numL 200 = [200, 1] := by rw [numL_big (by decide), numL_small (by decide)]; rfl
theorem encv_m3 : encV ⟨1, -3, ⟨#[]⟩, []⟩ = [1, 5] := by rw [encV_one, uns3, num5]
theorem encv_list : encV ⟨3, 0, ⟨#[]⟩, [sx, sy]⟩ = [3, 2, 1, 200, 1, 2, 2, 97, 98] := by
  rw [encV_three, encL, encL, encL, sx, sy, encV_one, encV_two, uns100, num200]
  show 3 :: (numL 2 ++ _) = _
  rw [num2, show numL (ByteArray.size ⟨#[97, 98]⟩) = [2] from num2]
  rfl
theorem se1 : codec_Encode.f 1 (-3) ⟨#[]⟩ [] = some ([1, 5], 0) := by
  unfold codec_Encode.f
  rw [if_pos (check_one _), encv_m3]
  rfl
theorem se2 : codec_Encode.f 3 0 ⟨#[]⟩ [sx, sy] = some ([3, 2, 1, 200, 1, 2, 2, 97, 98], 0) := by
  unfold codec_Encode.f
  rw [if_pos check_list, encv_list]
  rfl
theorem ss1 : codec_Size.f 3 0 ⟨#[]⟩ [sx, sy] = some (9, 0) := by
  unfold codec_Size.f
  rw [se2]
  rfl
theorem sgn200 : sgnG 200 = 100 := by decide +kernel
theorem sd1 : codec_Decode.f [3, 2, 1, 200, 1, 2, 2, 97, 98] = some (3, 0, ⟨#[]⟩, [sx, sy], 0) := by
  unfold codec_Decode.f
  rw [if_pos (by decide)]
  have h : decV [3, 2, 1, 200, 1, 2, 2, 97, 98] = some ⟨3, 0, ⟨#[]⟩, [sx, sy]⟩ := by
    simp [decV, rdVal, rdLen, rdNum, rdNumA, okAt, rdMany, sx, sy, sgn200]
    rfl
  rw [h]
theorem sd2 : codec_Decode.f [] = some (0, 0, ⟨#[]⟩, [], 10) := by
  unfold codec_Decode.f
  rw [if_pos (by decide), show decV [] = none from by simp [decV, rdVal]]
theorem sd3 : codec_Decode.f [1, 128, 0] = some (0, 0, ⟨#[]⟩, [], 10) := by
  unfold codec_Decode.f
  rw [if_pos (by decide), show decV [1, 128, 0] = none from by simp [decV, rdVal, rdNum, rdNumA, okAt]]
theorem sd4 : codec_Decode.f [1, 5, 0] = some (0, 0, ⟨#[]⟩, [], 10) := by
  unfold codec_Decode.f
  rw [if_pos (by decide), show decV [1, 5, 0] = none from by simp [decV, rdVal, rdNum, rdNumA, okAt]]
theorem sd5 : codec_Decode.f [2, 3, 97] = some (0, 0, ⟨#[]⟩, [], 10) := by
  unfold codec_Decode.f
  rw [if_pos (by decide), show decV [2, 3, 97] = none from by simp [decV, rdVal, rdLen, rdNum, rdNumA, okAt]]
theorem sq1 : codec_Same.f 3 0 ⟨#[]⟩ [sx, sy] 3 0 ⟨#[]⟩ [sx, sy] = some true := by
  unfold codec_Same.f
  simp [sameV, sameL, sx, sy]
theorem sq2 : codec_Same.f 2 0 ⟨#[]⟩ [] 3 0 ⟨#[]⟩ [] = some false := by
  unfold codec_Same.f
  simp [sameV]
theorem sc1 : codec_Check.f 0 0 ⟨#[]⟩ [] = some 1 := by
  unfold codec_Check.f codec_formed.f
  rw [formedV_not (usedV_out _ _ _ _ (by decide))]
  rfl
end Go.Proofs.Ytgnkjhppfenmaaa.Q
