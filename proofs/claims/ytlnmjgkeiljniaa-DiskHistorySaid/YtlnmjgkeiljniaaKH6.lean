/- The law DiskHistory holds for every input that its guards let in: the last part of the proof's texts. -/
import Derived.ChangeArms
import Derived.ChangeOld
import Derived.DataReads
import Derived.Deep.Slices
import Derived.OpenShut
import Derived.ProofKit
import Derived.ShutString
import Derived.SizedLaws
import Derived.Test.YtlnmjgkeiljniaaRows
import Derived.Test.YtlnmjgkeiljniaaKH5
set_option linter.unusedVariables false
set_option linter.unusedSimpArgs false
/- A disk among the inputs, opened. -/
namespace Go.Proofs.Ytlnmjgkeiljniaa.Q
open Go.RowKit Go.Proofs.YtlnmjgkeiljniaaW.PrintWords Go.Proofs.YtlnmjgkeiljniaaW.PrintLast Go.Proofs.YtlnmjgkeiljniaaW.PrintMore
set_option linter.unusedVariables false
set_option linter.unusedSimpArgs false
section
variable {H : Type} {enc : TypeId × Value → H} {W : World} {sp : Nat → Bool} {held : Bool} {α : Type}
theorem cells4 : Try.prog.cellsOf 4 = 1 := by kernel_rfl
theorem cells5 : Try.prog.cellsOf 5 = 1 := by kernel_rfl
end
end Go.Proofs.Ytlnmjgkeiljniaa.Q
/- Rows among the inputs, opened with the bounds of what they hold. -/
namespace Go.Proofs.Ytlnmjgkeiljniaa.Q
open Go.RowKit Go.Proofs.YtlnmjgkeiljniaaW.PrintWords Go.Proofs.YtlnmjgkeiljniaaW.PrintLast Go.Proofs.YtlnmjgkeiljniaaW.PrintMore
set_option linter.unusedVariables false
set_option linter.unusedSimpArgs false
section
variable {H : Type} {enc : TypeId × Value → H} {W : World} {sp : Nat → Bool} {held : Bool} {α : Type}
theorem u8_wf {n : Int} (h : (Lit.int .u8 n).wf = true) : 0 ≤ n ∧ n < 256 := by
  simp [Lit.wf, IntKind.min, IntKind.max, IntKind.bits, IntKind.signed] at h
  omega
theorem open_rowsP (d : Kd α) (Pv : α → Prop) {t e : TypeId} (z : α) (hu : Try.prog.underlying t = some (.slice e)) (hc : Try.prog.cellsOf e = d.sz) (el : ∀ n cs x, DataW.trod enc Try.prog W 0 sp held n e cs = some x → ∃ v, d.K W v cs ∧ Pv v)
    {fuel : Nat} {cs : List Value} {x : DataW H × List MemPlace} (h : DataW.trod enc Try.prog W 0 sp held fuel t cs = some x) : ∃ (A : Option Addr) (c : Nat) (l : List α), cs = [.slice A l.length c] ∧ l.length ≤ c ∧ d.C W A l.length l ∧ ∀ x ∈ l, Pv x := by
  rcases DataW.trod_slice hu h with ⟨rfl, _⟩ | ⟨a, len, cap, elems, rest, n, hn, rfl, _, _, hl, hm, hlen, hel, _, _⟩
  · exact ⟨none, 0, [], rfl, Nat.le_refl _, Kd.C_nil d W, fun x hx => by cases hx⟩
  · have hall : ∀ i : Nat, ∃ v : α, i < len → ∃ cs, W.cells? 0 (a.add (i * d.sz)) d.sz = some cs ∧ d.K W v cs ∧ Pv v := by
      intro i
      by_cases hi : i < len
      · have h1 := hel i hi
        rw [hc] at h1
        have h2 : elems[i]? = some (elems[i]'(by omega)) := List.getElem?_eq_getElem (by omega)
        rw [h2] at h1
        obtain ⟨cs, hcs, ht⟩ := Option.bind_eq_some_iff.mp h1
        obtain ⟨v, hK⟩ := el _ _ _ ht
        exact ⟨v, fun _ => ⟨_, hcs, hK⟩⟩
      · exact ⟨z, fun h => absurd h hi⟩
    have hm' : len ≤ 9223372036854775807 := by simp only [maxLen] at hm; omega
    refine ⟨some a, cap, (List.range len).map fun i => (hall i).choose, by simp, by simpa using hl, ?_⟩
    refine ⟨⟨rfl, by simpa using hm', fun _ => ⟨a, rfl, fun j p hp => ?_⟩⟩, fun x hx => ?_⟩
    rotate_left
    · obtain ⟨j, hj, rfl⟩ := List.mem_map.1 hx
      obtain ⟨cs, _, _, hP⟩ := (hall j).choose_spec (by simpa using hj)
      exact hP
    have hj : j < len := by
      have := (List.getElem?_eq_some_iff.1 hp).1
      simpa using this
    rw [List.getElem?_map, List.getElem?_eq_getElem (by simpa using hj)] at hp
    simp only [List.getElem_range, Option.map_some, Option.some.injEq] at hp
    subst hp
    obtain ⟨cs, hcs, hK, -⟩ := (hall j).choose_spec hj
    obtain ⟨_, hcl, hat⟩ := World.cells?_some hcs
    refine ⟨cs, hcl, hK, fun i u hu => ?_⟩
    have hi : i < d.sz := by have := (List.getElem?_eq_some_iff.1 hu).1; omega
    have h5 := hat i hi
    rw [hu] at h5
    have ha : (a.add (j * d.sz)).add i = a.add (j * d.sz + i) := Go.Deep.add_add a (j * d.sz) i
    show W.cell? (a.add (j * d.sz + i)) = some u
    rw [← ha]
    exact h5
theorem cells57 : Try.prog.cellsOf 57 = 3 := by kernel_rfl
set_option maxRecDepth 100000 in
theorem open_act {fuel : Nat} {cs : List Value} {x : DataW H × List MemPlace} (h : DataW.trod enc Try.prog W 0 sp held fuel 57 cs = some x) : ∃ v : S57, k57.K W v cs ∧ 0 ≤ v.f1 ∧ v.f1 < 256 ∧ 0 ≤ v.f2 ∧ v.f2 < 256 := by
  obtain ⟨xs, n, hn, _, hlen, _, hf⟩ := DataW.trod_struct Try.underlying57 h
  rw [cells57] at hlen
  match cs, hlen with
  | [c0, c1, c2], _ =>
    have g0 : DataW.trod enc Try.prog W 0 sp held n 4 [c0] = xs[0]? := by
      have h_ : DataW.trod enc Try.prog W 0 sp held n 4 (([c0, c1, c2].drop 0).take (Try.prog.cellsOf 4)) = xs[0]? := hf 0 _ rfl
      rw [cells4] at h_
      exact h_
    have g1 : DataW.trod enc Try.prog W 0 sp held n 5 [c1] = xs[1]? := by
      have h_ : DataW.trod enc Try.prog W 0 sp held n 5 (([c0, c1, c2].drop 1).take (Try.prog.cellsOf 5)) = xs[1]? := hf 1 _ rfl
      rw [cells5] at h_
      exact h_
    have g2 : DataW.trod enc Try.prog W 0 sp held n 5 [c2] = xs[2]? := by
      have h_ : DataW.trod enc Try.prog W 0 sp held n 5 (([c0, c1, c2].drop 2).take (Try.prog.cellsOf 5)) = xs[2]? := hf 2 _ rfl
      rw [cells5] at h_
      exact h_
    obtain ⟨y0, e0⟩ : ∃ y, xs[0]? = some y := ⟨_, List.getElem?_eq_getElem (by simp_all)⟩
    obtain ⟨y1, e1⟩ : ∃ y, xs[1]? = some y := ⟨_, List.getElem?_eq_getElem (by simp_all)⟩
    obtain ⟨y2, e2⟩ : ∃ y, xs[2]? = some y := ⟨_, List.getElem?_eq_getElem (by simp_all)⟩
    obtain ⟨b0, hc0, _⟩ := DataW.trod_bool Try.underlying4 (g0.trans e0)
    obtain ⟨n1, hc1, _, w1⟩ := DataW.trod_int Try.underlying5 (g1.trans e1)
    obtain ⟨n2, hc2, _, w2⟩ := DataW.trod_int Try.underlying5 (g2.trans e2)
    cases hc0
    cases hc1
    cases hc2
    have := u8_wf w1
    have := u8_wf w2
    exact ⟨⟨b0, n1, n2⟩, k57_mk W _, by dsimp only; omega, by dsimp only; omega, by dsimp only; omega, by dsimp only; omega⟩
theorem open_acts {fuel : Nat} {cs : List Value} {x : DataW H × List MemPlace} (h : DataW.trod enc Try.prog W 0 sp held fuel 54 cs = some x) : ∃ (A : Option Addr) (c : Nat) (l : List S57), cs = [.slice A l.length c] ∧ l.length ≤ c ∧ k57.C W A l.length l ∧ ∀ x ∈ l, 0 ≤ x.f1 ∧ x.f1 < 256 ∧ 0 ≤ x.f2 ∧ x.f2 < 256 :=
  open_rowsP k57 (fun v => 0 ≤ v.f1 ∧ v.f1 < 256 ∧ 0 ≤ v.f2 ∧ v.f2 < 256) z57 Try.underlying54 cells57 (fun n cs x h => open_act h) h
end
end Go.Proofs.Ytlnmjgkeiljniaa.Q
/- The row of the law DiskHistory. -/
namespace Go.Proofs.Ytlnmjgkeiljniaa.diskHistory
open Go.ChangeShapes Go.WideShapes Go.ChangeAt Go.RowKit Go.Proofs.YtlnmjgkeiljniaaW.PrintWords
open Go.ChangeMaps (open_string shut_string)
set_option linter.unusedVariables false
theorem own : ownKnob Try.prog.godebug = none := by kernel_rfl
theorem laidOut : laidOutB Try.prog = true := by kernel_rfl
set_option maxRecDepth 100000 in
theorem lifted (os : Os) (started : os.Started) (H : Type) (enc : TypeId × Value → H) :
    ReturnsInHanded {} Try.checked os 7 .any (Rows.diskHistorySpec.pre6 enc Try.prog Try.f7 Rows.diskHistoryRow.domain false) (Rows.diskHistorySpec.post enc Try.prog Try.f7 false true false false) := by
  refine returnsInHanded_of_change_sized (C := Try.checked) own started (by kernel_rfl) Try.func7
    (ChangeSpec.witness6 (enc := enc) (C := Try.checked) false ⟨#[], #[.slice none 0 0, .int .u8 0], []⟩ 8 (by kernel_rfl) (by kernel_rfl) (by kernel_rfl) (by kernel_rfl)) ?_
  intro W base args ds gs before hval0 hW hcnd hsz0 _
  have hval : ∀ (j : Nat) t v, Try.f7.params[j]? = some t → args[j]? = some v → Value.okWide Try.prog W .any base t v := hval0
  have hW' := hW
  obtain ⟨p, q, hA0, hV, rfl, hfz, hnd⟩ := hW
  have hA : DataW.TrodAll enc Try.prog W 0 (fun _ => true) true Try.f7.params.toList args.toList ds p := hA0
  rw [Try.params7] at hA hval
  obtain ⟨v0, vs0, d0, ds0, p0, q0, hargs, rfl, rfl, h0, r0⟩ := trodAll_cons hA
  obtain ⟨v1, vs1, d1, ds1, p1, q1, rfl, rfl, rfl, h1, r1⟩ := trodAll_cons r0
  obtain ⟨rfl, rfl, rfl⟩ := trodAll_nil r1
  obtain rfl : args = #[v0, v1] := by cases args; simp_all
  obtain ⟨rfl, rfl⟩ := trodVars_none hV
  obtain ⟨a0, len0, cap0, rfl⟩ := okWide_slice Try.underlying54 (hval 0 54 v0 rfl rfl)
  have k0 := h0
  have lt0 : ∀ x ∈ p0, x.block < W.heap.size := by obtain ⟨m, hm⟩ := k0; exact DataW.trod_lt m _ _ _ hm
  obtain ⟨l0, hlen0, hA0_, hP0⟩ : ∃ l : List Q.S57, len0 = l.length ∧ Q.k57.C W a0 l.length l ∧ ∀ x ∈ l, 0 ≤ x.f1 ∧ x.f1 < 256 ∧ 0 ≤ x.f2 ∧ x.f2 < 256 := by
    obtain ⟨fuel, hf⟩ := h0
    obtain ⟨A, c, l, he, hl, hC, hP⟩ := Q.open_acts hf
    cases he
    exact ⟨l, rfl, hC, hP⟩
  subst hlen0
  obtain ⟨a1, rfl, rfl, rfl, w1⟩ := open_int Try.underlying5 (hval 1 5 v1 rfl rfl) h1
  clear hA0 hval0 hsz0
  have hu8 := Q.u8_wf w1
  obtain ⟨n1, rfl⟩ : ∃ n1 : Nat, a1 = (n1 : Int) := ⟨a1.toNat, by omega⟩
  refine (Q.history_says _ _ l0 n1 W hA0_ hP0 (by omega)).mono fun e W' ⟨he, bel⟩ => ?_
  subst he
  exact ⟨_, rfl, _, _, _, [], _, [], hW', trodAll_mk1 (shut_bool Try.underlying4 _), (trodAll_cons_mk (Below.trod laidOut (by kernel_rfl) (of_decide_eq_true (by kernel_rfl)) k0 bel lt0) (trodAll_cons_mk (shut_int Try.underlying5 w1) trodAll_mk0)), rfl, bel.frame _, fun h => by cases h⟩
theorem over : Rows.diskHistoryRow.holds Try.pinned (OpenSpec.ofChange Rows.diskHistorySpec) :=
  OpenClaim.holds_of_wide 7 Try.f7 rfl rfl rfl rfl rfl rfl rfl ⟨rfl, rfl, rfl, rfl, rfl⟩ rfl rfl rfl rfl rfl (by kernel_rfl) Try.func7 (by kernel_rfl)
    (of_decide_eq_true (by kernel_rfl)) (by unfold Func.isWrapper; first | (rw [if_pos (by decide +kernel)]; kernel_rfl) | (rw [if_neg (by decide +kernel)]; exact ⟨rfl, rfl⟩))
    (fun os started H enc _ => lifted os started H enc)
theorem proved : Rows.DiskHistorySaid := over
#print axioms proved
end Go.Proofs.Ytlnmjgkeiljniaa.diskHistory
namespace Go.Proofs.Ytlnmjgkeiljniaa
/-- The row, under a short name, for the claim. -/
theorem diskHistory_holds : Rows.DiskHistorySaid := diskHistory.proved
end Go.Proofs.Ytlnmjgkeiljniaa
