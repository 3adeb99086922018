/- The law DiskNewSpec holds for every input that its guards let in: the last part of the proof's texts. -/
import Derived.ChangeOld
import Derived.OpenShut
import Derived.ShutString
import Derived.SizedLaws
import Derived.Test.YtlnmjgkeiljniaaRows
import Derived.Test.YtlnmjgkeiljniaaKN6
set_option linter.unusedVariables false
set_option linter.unusedSimpArgs false
/- The row of the law DiskNewSpec. -/
namespace Go.Proofs.Ytlnmjgkeiljniaa.diskNewSpec
open Go.ChangeShapes Go.WideShapes Go.ChangeAt Go.RowKit Go.Proofs.YtlnmjgkeiljniaaW.PrintWords
open Go.ChangeMaps (open_string shut_string)
set_option linter.unusedVariables false
theorem own : ownKnob Try.prog.godebug = none := by kernel_rfl
theorem laidOut : laidOutB Try.prog = true := by kernel_rfl
set_option maxRecDepth 100000 in
theorem lifted (os : Os) (started : os.Started) (H : Type) (enc : TypeId × Value → H) :
    ReturnsInHanded {} Try.checked os 3 .any (Rows.diskNewSpecSpec.pre6 enc Try.prog Try.f3 Rows.diskNewSpecRow.domain false) (Rows.diskNewSpecSpec.post enc Try.prog Try.f3 false true false false) := by
  refine returnsInHanded_of_change_sized (C := Try.checked) own started (by kernel_rfl) Try.func3
    (ChangeSpec.witness6 (enc := enc) (C := Try.checked) false ⟨#[], #[.int .i64 0, .agg #[.slice none 0 0, .slice none 0 0, .int .i64 0, .bool false]], []⟩ 8 (by kernel_rfl) (by kernel_rfl) (by kernel_rfl) (by kernel_rfl)) ?_
  intro W base args ds gs before hval0 hW hcnd hsz0 _
  have hval : ∀ (j : Nat) t v, Try.f3.params[j]? = some t → args[j]? = some v → Value.okWide Try.prog W .any base t v := hval0
  have hW' := hW
  obtain ⟨p, q, hA0, hV, rfl, hfz, hnd⟩ := hW
  have hA : DataW.TrodAll enc Try.prog W 0 (fun _ => true) true Try.f3.params.toList args.toList ds p := hA0
  rw [Try.params3] at hA hval
  obtain ⟨v0, vs0, d0, ds0, p0, q0, hargs, rfl, rfl, h0, r0⟩ := trodAll_cons hA
  obtain ⟨v1, vs1, d1, ds1, p1, q1, rfl, rfl, rfl, h1, r1⟩ := trodAll_cons r0
  obtain ⟨rfl, rfl, rfl⟩ := trodAll_nil r1
  obtain rfl : args = #[v0, v1] := by cases args; simp_all
  obtain ⟨rfl, rfl⟩ := trodVars_none hV
  obtain ⟨a0, rfl, rfl, rfl, w0⟩ := open_int Try.underlying3 (hval 0 3 v0 rfl rfl) h0
  have k1 := h1
  have lt1 : ∀ x ∈ p1, x.block < W.heap.size := by obtain ⟨m, hm⟩ := k1; exact DataW.trod_lt m _ _ _ hm
  obtain ⟨cs1, rfl, _⟩ := okWide_struct Try.underlying25 (hval 1 25 v1 rfl rfl)
  obtain ⟨x1, A1, c1, B1, e1, hcs1, hl1, hm1, hC1, hE1⟩ := (by obtain ⟨fuel, hf⟩ := h1; exact Q.open_disk hf : ∃ (d : Q.Dk) (A0 : Option Addr) (c0 : Nat) (A1 : Option Addr) (c1 : Nat), cs1.toList = [.slice A0 d.s.length c0, .slice A1 d.p.length c1, .int .i64 d.left, .bool d.st] ∧ d.s.length ≤ c0 ∧ d.p.length ≤ c1 ∧ (Kd.slice 5 (Kd.int .u8)).C W A0 d.s.length d.s ∧ Q.k76.C W A1 d.p.length d.p)
  obtain rfl : cs1 = #[.slice A1 x1.s.length c1, .slice B1 x1.p.length e1, .int .i64 x1.left, .bool x1.st] := by cases cs1; simp_all
  have hD1 : Q.DiskV W (.agg #[.slice A1 x1.s.length c1, .slice B1 x1.p.length e1, .int .i64 x1.left, .bool x1.st]) x1 := ⟨_, _, _, _, rfl, hl1, hm1, hC1, hE1⟩
  clear hA0 hval0 hsz0
  refine (Q.newSpec_says a0 _ x1 W hD1).mono fun e W' ⟨he, bel⟩ => ?_
  subst he
  exact ⟨_, rfl, _, _, _, [], _, [], hW', trodAll_mk1 (shut_bool Try.underlying4 _), (trodAll_cons_mk (shut_int Try.underlying3 w0) (trodAll_cons_mk (Below.trod laidOut (by kernel_rfl) (of_decide_eq_true (by kernel_rfl)) k1 bel lt1) trodAll_mk0)), rfl, bel.frame _, fun h => by cases h⟩
theorem over : Rows.diskNewSpecRow.holds Try.pinned (OpenSpec.ofChange Rows.diskNewSpecSpec) :=
  OpenClaim.holds_of_wide 3 Try.f3 rfl rfl rfl rfl rfl rfl rfl ⟨rfl, rfl, rfl, rfl, rfl⟩ rfl rfl rfl rfl rfl (by kernel_rfl) Try.func3 (by kernel_rfl)
    (of_decide_eq_true (by kernel_rfl)) (by unfold Func.isWrapper; first | (rw [if_pos (by decide +kernel)]; kernel_rfl) | (rw [if_neg (by decide +kernel)]; exact ⟨rfl, rfl⟩))
    (fun os started H enc _ => lifted os started H enc)
theorem proved : Rows.DiskNewSpecSaid := over
#print axioms proved
end Go.Proofs.Ytlnmjgkeiljniaa.diskNewSpec
namespace Go.Proofs.Ytlnmjgkeiljniaa
/-- The row, under a short name, for the claim. -/
theorem diskNewSpec_holds : Rows.DiskNewSpecSaid := diskNewSpec.proved
end Go.Proofs.Ytlnmjgkeiljniaa
