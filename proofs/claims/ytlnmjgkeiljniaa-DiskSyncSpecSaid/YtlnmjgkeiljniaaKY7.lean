/- The law DiskSyncSpec holds for every input that its guards let in: the last part of the proof's texts. -/
import Derived.ChangeOld
import Derived.OpenShut
import Derived.ShutString
import Derived.SizedLaws
import Derived.Test.YtlnmjgkeiljniaaRows
import Derived.Test.YtlnmjgkeiljniaaKY6
set_option linter.unusedVariables false
set_option linter.unusedSimpArgs false
/- The row of the law DiskSyncSpec. -/
namespace Go.Proofs.Ytlnmjgkeiljniaa.diskSyncSpec
open Go.ChangeShapes Go.WideShapes Go.ChangeAt Go.RowKit Go.Proofs.YtlnmjgkeiljniaaW.PrintWords
open Go.ChangeMaps (open_string shut_string)
set_option linter.unusedVariables false
theorem own : ownKnob Try.prog.godebug = none := by kernel_rfl
theorem laidOut : laidOutB Try.prog = true := by kernel_rfl
set_option maxRecDepth 100000 in
theorem lifted (os : Os) (started : os.Started) (H : Type) (enc : TypeId × Value → H) :
    ReturnsInHanded {} Try.checked os 5 .any (Rows.diskSyncSpecSpec.pre6 enc Try.prog Try.f5 Rows.diskSyncSpecRow.domain false) (Rows.diskSyncSpecSpec.post enc Try.prog Try.f5 false true false false) := by
  refine returnsInHanded_of_change_sized (C := Try.checked) own started (by kernel_rfl) Try.func5
    (ChangeSpec.witness6 (enc := enc) (C := Try.checked) false ⟨#[], #[.agg #[.slice none 0 0, .slice none 0 0, .int .i64 0, .bool false], .int .i64 0], []⟩ 8 (by kernel_rfl) (by kernel_rfl) (by kernel_rfl) (by kernel_rfl)) ?_
  intro W base args ds gs before hval0 hW hcnd hsz0 _
  have hval : ∀ (j : Nat) t v, Try.f5.params[j]? = some t → args[j]? = some v → Value.okWide Try.prog W .any base t v := hval0
  have hW' := hW
  obtain ⟨p, q, hA0, hV, rfl, hfz, hnd⟩ := hW
  have hA : DataW.TrodAll enc Try.prog W 0 (fun _ => true) true Try.f5.params.toList args.toList ds p := hA0
  rw [Try.params5] at hA hval
  obtain ⟨v0, vs0, d0, ds0, p0, q0, hargs, rfl, rfl, h0, r0⟩ := trodAll_cons hA
  obtain ⟨v1, vs1, d1, ds1, p1, q1, rfl, rfl, rfl, h1, r1⟩ := trodAll_cons r0
  obtain ⟨rfl, rfl, rfl⟩ := trodAll_nil r1
  obtain rfl : args = #[v0, v1] := by cases args; simp_all
  obtain ⟨rfl, rfl⟩ := trodVars_none hV
  have k0 := h0
  have lt0 : ∀ x ∈ p0, x.block < W.heap.size := by obtain ⟨m, hm⟩ := k0; exact DataW.trod_lt m _ _ _ hm
  obtain ⟨cs0, rfl, _⟩ := okWide_struct Try.underlying25 (hval 0 25 v0 rfl rfl)
  obtain ⟨x0, A0, c0, B0, e0, hcs0, hl0, hm0, hC0, hE0⟩ := (by obtain ⟨fuel, hf⟩ := h0; exact Q.open_disk hf : ∃ (d : Q.Dk) (A0 : Option Addr) (c0 : Nat) (A1 : Option Addr) (c1 : Nat), cs0.toList = [.slice A0 d.s.length c0, .slice A1 d.p.length c1, .int .i64 d.left, .bool d.st] ∧ d.s.length ≤ c0 ∧ d.p.length ≤ c1 ∧ (Kd.slice 5 (Kd.int .u8)).C W A0 d.s.length d.s ∧ Q.k76.C W A1 d.p.length d.p)
  obtain rfl : cs0 = #[.slice A0 x0.s.length c0, .slice B0 x0.p.length e0, .int .i64 x0.left, .bool x0.st] := by cases cs0; simp_all
  have hD0 : Q.DiskV W (.agg #[.slice A0 x0.s.length c0, .slice B0 x0.p.length e0, .int .i64 x0.left, .bool x0.st]) x0 := ⟨_, _, _, _, rfl, hl0, hm0, hC0, hE0⟩
  obtain ⟨a1, rfl, rfl, rfl, w1⟩ := open_int Try.underlying3 (hval 1 3 v1 rfl rfl) h1
  clear hA0 hval0 hsz0
  refine (Q.syncSpec_says _ x0 a1 W hD0).mono fun e W' ⟨he, bel⟩ => ?_
  subst he
  exact ⟨_, rfl, _, _, _, [], _, [], hW', trodAll_mk1 (shut_bool Try.underlying4 _), (trodAll_cons_mk (Below.trod laidOut (by kernel_rfl) (of_decide_eq_true (by kernel_rfl)) k0 bel lt0) (trodAll_cons_mk (shut_int Try.underlying3 w1) trodAll_mk0)), rfl, bel.frame _, fun h => by cases h⟩
theorem over : Rows.diskSyncSpecRow.holds Try.pinned (OpenSpec.ofChange Rows.diskSyncSpecSpec) :=
  OpenClaim.holds_of_wide 5 Try.f5 rfl rfl rfl rfl rfl rfl rfl ⟨rfl, rfl, rfl, rfl, rfl⟩ rfl rfl rfl rfl rfl (by kernel_rfl) Try.func5 (by kernel_rfl)
    (of_decide_eq_true (by kernel_rfl)) (by unfold Func.isWrapper; first | (rw [if_pos (by decide +kernel)]; kernel_rfl) | (rw [if_neg (by decide +kernel)]; exact ⟨rfl, rfl⟩))
    (fun os started H enc _ => lifted os started H enc)
theorem proved : Rows.DiskSyncSpecSaid := over
#print axioms proved
end Go.Proofs.Ytlnmjgkeiljniaa.diskSyncSpec
namespace Go.Proofs.Ytlnmjgkeiljniaa
/-- The row, under a short name, for the claim. -/
theorem diskSyncSpec_holds : Rows.DiskSyncSpecSaid := diskSyncSpec.proved
end Go.Proofs.Ytlnmjgkeiljniaa
