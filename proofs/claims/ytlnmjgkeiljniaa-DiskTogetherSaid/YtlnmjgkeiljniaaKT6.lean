/- The law DiskTogether holds for every input that its guards let in: the last part of the proof's texts. -/
import Derived.ChangeArms
import Derived.ChangeOld
import Derived.DataReads
import Derived.Deep.Slices
import Derived.OpenShut
import Derived.ProofKit
import Derived.ShutString
import Derived.SizedLaws
import Derived.Test.YtlnmjgkeiljniaaRows
import Derived.Test.YtlnmjgkeiljniaaKT5
set_option linter.unusedVariables false
set_option linter.unusedSimpArgs false
/- A disk among the inputs, opened. -/
namespace Go.Proofs.Ytlnmjgkeiljniaa.Q
open Go.RowKit Go.Proofs.YtlnmjgkeiljniaaW.PrintWords Go.Proofs.YtlnmjgkeiljniaaW.PrintLast Go.Proofs.YtlnmjgkeiljniaaW.PrintMore
set_option linter.unusedVariables false
set_option linter.unusedSimpArgs false
section
variable {H : Type} {enc : TypeId × Value → H} {W : World} {sp : Nat → Bool} {held : Bool} {α : Type}
theorem cells3 : Try.prog.cellsOf 3 = 1 := by kernel_rfl
theorem cells4 : Try.prog.cellsOf 4 = 1 := by kernel_rfl
theorem cells5 : Try.prog.cellsOf 5 = 1 := by kernel_rfl
theorem cells35 : Try.prog.cellsOf 35 = 1 := by kernel_rfl
theorem cells22 : Try.prog.cellsOf 22 = 1 := by kernel_rfl
theorem cells23 : Try.prog.cellsOf 23 = 1 := by kernel_rfl
theorem cells76 : Try.prog.cellsOf 76 = 2 := by kernel_rfl
theorem cells25 : Try.prog.cellsOf 25 = 4 := by kernel_rfl
theorem open_rows (d : Kd α) {t e : TypeId} (z : α) (hu : Try.prog.underlying t = some (.slice e)) (hc : Try.prog.cellsOf e = d.sz) (el : ∀ n cs x, DataW.trod enc Try.prog W 0 sp held n e cs = some x → ∃ v, d.K W v cs)
    {fuel : Nat} {cs : List Value} {x : DataW H × List MemPlace} (h : DataW.trod enc Try.prog W 0 sp held fuel t cs = some x) : ∃ (A : Option Addr) (c : Nat) (l : List α), cs = [.slice A l.length c] ∧ l.length ≤ c ∧ d.C W A l.length l := by
  rcases DataW.trod_slice hu h with ⟨rfl, _⟩ | ⟨a, len, cap, elems, rest, n, hn, rfl, _, _, hl, hm, hlen, hel, _, _⟩
  · exact ⟨none, 0, [], rfl, Nat.le_refl _, Kd.C_nil d W⟩
  · have hall : ∀ i : Nat, ∃ v : α, i < len → ∃ cs, W.cells? 0 (a.add (i * d.sz)) d.sz = some cs ∧ d.K W v cs := by
      intro i
      by_cases hi : i < len
      · have h1 := hel i hi
        rw [hc] at h1
        have h2 : elems[i]? = some (elems[i]'(by omega)) := List.getElem?_eq_getElem (by omega)
        rw [h2] at h1
        obtain ⟨cs, hcs, ht⟩ := Option.bind_eq_some_iff.mp h1
        obtain ⟨v, hK⟩ := el _ _ _ ht
        exact ⟨v, fun _ => ⟨_, hcs, hK⟩⟩
      · exact ⟨z, fun h => absurd h hi⟩
    have hm' : len ≤ 9223372036854775807 := by simp only [maxLen] at hm; omega
    refine ⟨some a, cap, (List.range len).map fun i => (hall i).choose, by simp, by simpa using hl, ?_⟩
    refine ⟨rfl, by simpa using hm', fun _ => ⟨a, rfl, fun j p hp => ?_⟩⟩
    have hj : j < len := by
      have := (List.getElem?_eq_some_iff.1 hp).1
      simpa using this
    rw [List.getElem?_map, List.getElem?_eq_getElem (by simpa using hj)] at hp
    simp only [List.getElem_range, Option.map_some, Option.some.injEq] at hp
    subst hp
    obtain ⟨cs, hcs, hK⟩ := (hall j).choose_spec hj
    obtain ⟨_, hcl, hat⟩ := World.cells?_some hcs
    refine ⟨cs, hcl, hK, fun i u hu => ?_⟩
    have hi : i < d.sz := by have := (List.getElem?_eq_some_iff.1 hu).1; omega
    have h5 := hat i hi
    rw [hu] at h5
    have ha : (a.add (j * d.sz)).add i = a.add (j * d.sz + i) := Go.Deep.add_add a (j * d.sz) i
    show W.cell? (a.add (j * d.sz + i)) = some u
    rw [← ha]
    exact h5
theorem open_bytes {fuel : Nat} {cs : List Value} {x : DataW H × List MemPlace} (h : DataW.trod enc Try.prog W 0 sp held fuel 35 cs = some x) : ∃ (A : Option Addr) (c : Nat) (l : List Int), cs = [.slice A l.length c] ∧ l.length ≤ c ∧ (Kd.int .u8).C W A l.length l :=
  open_rows (Kd.int .u8) (0 : Int) Try.underlying35 cells5 (fun n cs x h => by obtain ⟨v, rfl, _, _⟩ := DataW.trod_int Try.underlying5 h; exact ⟨v, rfl⟩) h
theorem open_secs {fuel : Nat} {cs : List Value} {x : DataW H × List MemPlace} (h : DataW.trod enc Try.prog W 0 sp held fuel 22 cs = some x) : ∃ (A : Option Addr) (c : Nat) (l : List (List Int)), cs = [.slice A l.length c] ∧ l.length ≤ c ∧ (Kd.slice 5 (Kd.int .u8)).C W A l.length l :=
  open_rows (Kd.slice 5 (Kd.int .u8)) ([] : List Int) Try.underlying22 cells35 (fun n cs x h => by obtain ⟨A, c, l, rfl, hl, hC⟩ := open_bytes h; exact ⟨l, A, c, rfl, hl, hC⟩) h
set_option maxRecDepth 100000 in
theorem open_write {fuel : Nat} {cs : List Value} {x : DataW H × List MemPlace} (h : DataW.trod enc Try.prog W 0 sp held fuel 76 cs = some x) : ∃ v : S76, k76.K W v cs := by
  obtain ⟨xs, n, hn, _, hlen, _, hf⟩ := DataW.trod_struct Try.underlying76 h
  rw [cells76] at hlen
  match cs, hlen with
  | [c0, c1], _ =>
    have g0 : DataW.trod enc Try.prog W 0 sp held n 3 [c0] = xs[0]? := by
      have h_ : DataW.trod enc Try.prog W 0 sp held n 3 (([c0, c1].drop 0).take (Try.prog.cellsOf 3)) = xs[0]? := hf 0 _ rfl
      rw [cells3] at h_
      exact h_
    have g1 : DataW.trod enc Try.prog W 0 sp held n 35 [c1] = xs[1]? := by
      have h_ : DataW.trod enc Try.prog W 0 sp held n 35 (([c0, c1].drop 1).take (Try.prog.cellsOf 35)) = xs[1]? := hf 1 _ rfl
      rw [cells35] at h_
      exact h_
    obtain ⟨y0, e0⟩ : ∃ y, xs[0]? = some y := ⟨_, List.getElem?_eq_getElem (by simp_all)⟩
    obtain ⟨y1, e1⟩ : ∃ y, xs[1]? = some y := ⟨_, List.getElem?_eq_getElem (by simp_all)⟩
    obtain ⟨n0, hc0, _, w0⟩ := DataW.trod_int Try.underlying3 (g0.trans e0)
    obtain ⟨A, c, l, hc1, hl, hC⟩ := open_bytes (g1.trans e1)
    cases hc0
    cases hc1
    exact ⟨⟨n0, l⟩, k76_mk W ⟨n0, l⟩ hl hC⟩
theorem open_pend {fuel : Nat} {cs : List Value} {x : DataW H × List MemPlace} (h : DataW.trod enc Try.prog W 0 sp held fuel 23 cs = some x) : ∃ (A : Option Addr) (c : Nat) (l : List S76), cs = [.slice A l.length c] ∧ l.length ≤ c ∧ k76.C W A l.length l :=
  open_rows k76 z76 Try.underlying23 cells76 (fun n cs x h => open_write h) h
set_option maxRecDepth 100000 in
theorem open_disk {fuel : Nat} {cs : List Value} {x : DataW H × List MemPlace} (h : DataW.trod enc Try.prog W 0 sp held fuel 25 cs = some x) : ∃ (d : Dk) (A0 : Option Addr) (c0 : Nat) (A1 : Option Addr) (c1 : Nat), cs = [.slice A0 d.s.length c0, .slice A1 d.p.length c1, .int .i64 d.left, .bool d.st] ∧
    d.s.length ≤ c0 ∧ d.p.length ≤ c1 ∧ (Kd.slice 5 (Kd.int .u8)).C W A0 d.s.length d.s ∧ k76.C W A1 d.p.length d.p := by
  obtain ⟨xs, n, hn, _, hlen, _, hf⟩ := DataW.trod_struct Try.underlying25 h
  rw [cells25] at hlen
  match cs, hlen with
  | [c0, c1, c2, c3], _ =>
    have g0 : DataW.trod enc Try.prog W 0 sp held n 22 [c0] = xs[0]? := by
      have h_ : DataW.trod enc Try.prog W 0 sp held n 22 (([c0, c1, c2, c3].drop 0).take (Try.prog.cellsOf 22)) = xs[0]? := hf 0 _ rfl
      rw [cells22] at h_
      exact h_
    obtain ⟨y0, e0⟩ : ∃ y, xs[0]? = some y := ⟨_, List.getElem?_eq_getElem (by simp_all)⟩
    have g1 : DataW.trod enc Try.prog W 0 sp held n 23 [c1] = xs[1]? := by
      have h_ : DataW.trod enc Try.prog W 0 sp held n 23 (([c0, c1, c2, c3].drop 1).take (Try.prog.cellsOf 23)) = xs[1]? := hf 1 _ rfl
      rw [cells23] at h_
      exact h_
    obtain ⟨y1, e1⟩ : ∃ y, xs[1]? = some y := ⟨_, List.getElem?_eq_getElem (by simp_all)⟩
    have g2 : DataW.trod enc Try.prog W 0 sp held n 3 [c2] = xs[2]? := by
      have h_ : DataW.trod enc Try.prog W 0 sp held n 3 (([c0, c1, c2, c3].drop 2).take (Try.prog.cellsOf 3)) = xs[2]? := hf 2 _ rfl
      rw [cells3] at h_
      exact h_
    obtain ⟨y2, e2⟩ : ∃ y, xs[2]? = some y := ⟨_, List.getElem?_eq_getElem (by simp_all)⟩
    have g3 : DataW.trod enc Try.prog W 0 sp held n 4 [c3] = xs[3]? := by
      have h_ : DataW.trod enc Try.prog W 0 sp held n 4 (([c0, c1, c2, c3].drop 3).take (Try.prog.cellsOf 4)) = xs[3]? := hf 3 _ rfl
      rw [cells4] at h_
      exact h_
    obtain ⟨y3, e3⟩ : ∃ y, xs[3]? = some y := ⟨_, List.getElem?_eq_getElem (by simp_all)⟩
    obtain ⟨A0, k0, l0, hc0, hl0, hC0⟩ := open_secs (g0.trans e0)
    obtain ⟨A1, k1, l1, hc1, hl1, hC1⟩ := open_pend (g1.trans e1)
    obtain ⟨n2, hc2, _, w2⟩ := DataW.trod_int Try.underlying3 (g2.trans e2)
    obtain ⟨b3, hc3, _⟩ := DataW.trod_bool Try.underlying4 (g3.trans e3)
    cases hc0
    cases hc1
    cases hc2
    cases hc3
    exact ⟨⟨l0, l1, n2, b3⟩, A0, k0, A1, k1, rfl, hl0, hl1, hC0, hC1⟩
end
end Go.Proofs.Ytlnmjgkeiljniaa.Q
/- Rows among the inputs, opened with the bounds of what they hold. -/
namespace Go.Proofs.Ytlnmjgkeiljniaa.Q
open Go.RowKit Go.Proofs.YtlnmjgkeiljniaaW.PrintWords Go.Proofs.YtlnmjgkeiljniaaW.PrintLast Go.Proofs.YtlnmjgkeiljniaaW.PrintMore
set_option linter.unusedVariables false
set_option linter.unusedSimpArgs false
section
variable {H : Type} {enc : TypeId × Value → H} {W : World} {sp : Nat → Bool} {held : Bool} {α : Type}
theorem u8_wf {n : Int} (h : (Lit.int .u8 n).wf = true) : 0 ≤ n ∧ n < 256 := by
  simp [Lit.wf, IntKind.min, IntKind.max, IntKind.bits, IntKind.signed] at h
  omega
theorem open_rowsP (d : Kd α) (Pv : α → Prop) {t e : TypeId} (z : α) (hu : Try.prog.underlying t = some (.slice e)) (hc : Try.prog.cellsOf e = d.sz) (el : ∀ n cs x, DataW.trod enc Try.prog W 0 sp held n e cs = some x → ∃ v, d.K W v cs ∧ Pv v)
    {fuel : Nat} {cs : List Value} {x : DataW H × List MemPlace} (h : DataW.trod enc Try.prog W 0 sp held fuel t cs = some x) : ∃ (A : Option Addr) (c : Nat) (l : List α), cs = [.slice A l.length c] ∧ l.length ≤ c ∧ d.C W A l.length l ∧ ∀ x ∈ l, Pv x := by
  rcases DataW.trod_slice hu h with ⟨rfl, _⟩ | ⟨a, len, cap, elems, rest, n, hn, rfl, _, _, hl, hm, hlen, hel, _, _⟩
  · exact ⟨none, 0, [], rfl, Nat.le_refl _, Kd.C_nil d W, fun x hx => by cases hx⟩
  · have hall : ∀ i : Nat, ∃ v : α, i < len → ∃ cs, W.cells? 0 (a.add (i * d.sz)) d.sz = some cs ∧ d.K W v cs ∧ Pv v := by
      intro i
      by_cases hi : i < len
      · have h1 := hel i hi
        rw [hc] at h1
        have h2 : elems[i]? = some (elems[i]'(by omega)) := List.getElem?_eq_getElem (by omega)
        rw [h2] at h1
        obtain ⟨cs, hcs, ht⟩ := Option.bind_eq_some_iff.mp h1
        obtain ⟨v, hK⟩ := el _ _ _ ht
        exact ⟨v, fun _ => ⟨_, hcs, hK⟩⟩
      · exact ⟨z, fun h => absurd h hi⟩
    have hm' : len ≤ 9223372036854775807 := by simp only [maxLen] at hm; omega
    refine ⟨some a, cap, (List.range len).map fun i => (hall i).choose, by simp, by simpa using hl, ?_⟩
    refine ⟨⟨rfl, by simpa using hm', fun _ => ⟨a, rfl, fun j p hp => ?_⟩⟩, fun x hx => ?_⟩
    rotate_left
    · obtain ⟨j, hj, rfl⟩ := List.mem_map.1 hx
      obtain ⟨cs, _, _, hP⟩ := (hall j).choose_spec (by simpa using hj)
      exact hP
    have hj : j < len := by
      have := (List.getElem?_eq_some_iff.1 hp).1
      simpa using this
    rw [List.getElem?_map, List.getElem?_eq_getElem (by simpa using hj)] at hp
    simp only [List.getElem_range, Option.map_some, Option.some.injEq] at hp
    subst hp
    obtain ⟨cs, hcs, hK, -⟩ := (hall j).choose_spec hj
    obtain ⟨_, hcl, hat⟩ := World.cells?_some hcs
    refine ⟨cs, hcl, hK, fun i u hu => ?_⟩
    have hi : i < d.sz := by have := (List.getElem?_eq_some_iff.1 hu).1; omega
    have h5 := hat i hi
    rw [hu] at h5
    have ha : (a.add (j * d.sz)).add i = a.add (j * d.sz + i) := Go.Deep.add_add a (j * d.sz) i
    show W.cell? (a.add (j * d.sz + i)) = some u
    rw [← ha]
    exact h5
theorem cells57 : Try.prog.cellsOf 57 = 3 := by kernel_rfl
set_option maxRecDepth 100000 in
theorem open_act {fuel : Nat} {cs : List Value} {x : DataW H × List MemPlace} (h : DataW.trod enc Try.prog W 0 sp held fuel 57 cs = some x) : ∃ v : S57, k57.K W v cs ∧ 0 ≤ v.f1 ∧ v.f1 < 256 ∧ 0 ≤ v.f2 ∧ v.f2 < 256 := by
  obtain ⟨xs, n, hn, _, hlen, _, hf⟩ := DataW.trod_struct Try.underlying57 h
  rw [cells57] at hlen
  match cs, hlen with
  | [c0, c1, c2], _ =>
    have g0 : DataW.trod enc Try.prog W 0 sp held n 4 [c0] = xs[0]? := by
      have h_ : DataW.trod enc Try.prog W 0 sp held n 4 (([c0, c1, c2].drop 0).take (Try.prog.cellsOf 4)) = xs[0]? := hf 0 _ rfl
      rw [cells4] at h_
      exact h_
    have g1 : DataW.trod enc Try.prog W 0 sp held n 5 [c1] = xs[1]? := by
      have h_ : DataW.trod enc Try.prog W 0 sp held n 5 (([c0, c1, c2].drop 1).take (Try.prog.cellsOf 5)) = xs[1]? := hf 1 _ rfl
      rw [cells5] at h_
      exact h_
    have g2 : DataW.trod enc Try.prog W 0 sp held n 5 [c2] = xs[2]? := by
      have h_ : DataW.trod enc Try.prog W 0 sp held n 5 (([c0, c1, c2].drop 2).take (Try.prog.cellsOf 5)) = xs[2]? := hf 2 _ rfl
      rw [cells5] at h_
      exact h_
    obtain ⟨y0, e0⟩ : ∃ y, xs[0]? = some y := ⟨_, List.getElem?_eq_getElem (by simp_all)⟩
    obtain ⟨y1, e1⟩ : ∃ y, xs[1]? = some y := ⟨_, List.getElem?_eq_getElem (by simp_all)⟩
    obtain ⟨y2, e2⟩ : ∃ y, xs[2]? = some y := ⟨_, List.getElem?_eq_getElem (by simp_all)⟩
    obtain ⟨b0, hc0, _⟩ := DataW.trod_bool Try.underlying4 (g0.trans e0)
    obtain ⟨n1, hc1, _, w1⟩ := DataW.trod_int Try.underlying5 (g1.trans e1)
    obtain ⟨n2, hc2, _, w2⟩ := DataW.trod_int Try.underlying5 (g2.trans e2)
    cases hc0
    cases hc1
    cases hc2
    have := u8_wf w1
    have := u8_wf w2
    exact ⟨⟨b0, n1, n2⟩, k57_mk W _, by dsimp only; omega, by dsimp only; omega, by dsimp only; omega, by dsimp only; omega⟩
theorem open_acts {fuel : Nat} {cs : List Value} {x : DataW H × List MemPlace} (h : DataW.trod enc Try.prog W 0 sp held fuel 54 cs = some x) : ∃ (A : Option Addr) (c : Nat) (l : List S57), cs = [.slice A l.length c] ∧ l.length ≤ c ∧ k57.C W A l.length l ∧ ∀ x ∈ l, 0 ≤ x.f1 ∧ x.f1 < 256 ∧ 0 ≤ x.f2 ∧ x.f2 < 256 :=
  open_rowsP k57 (fun v => 0 ≤ v.f1 ∧ v.f1 < 256 ∧ 0 ≤ v.f2 ∧ v.f2 < 256) z57 Try.underlying54 cells57 (fun n cs x h => open_act h) h
end
end Go.Proofs.Ytlnmjgkeiljniaa.Q
/- The row of the law DiskTogether. -/
namespace Go.Proofs.Ytlnmjgkeiljniaa.diskTogether
open Go.ChangeShapes Go.WideShapes Go.ChangeAt Go.RowKit Go.Proofs.YtlnmjgkeiljniaaW.PrintWords
open Go.ChangeMaps (open_string shut_string)
set_option linter.unusedVariables false
theorem own : ownKnob Try.prog.godebug = none := by kernel_rfl
theorem laidOut : laidOutB Try.prog = true := by kernel_rfl
set_option maxRecDepth 100000 in
theorem lifted (os : Os) (started : os.Started) (H : Type) (enc : TypeId × Value → H) :
    ReturnsInHanded {} Try.checked os 10 .any (Rows.diskTogetherSpec.pre6 enc Try.prog Try.f10 Rows.diskTogetherRow.domain false) (Rows.diskTogetherSpec.post enc Try.prog Try.f10 false true false false) := by
  refine returnsInHanded_of_change_sized (C := Try.checked) own started (by kernel_rfl) Try.func10
    (ChangeSpec.witness6 (enc := enc) (C := Try.checked) false ⟨#[], #[.agg #[.slice none 0 0, .slice none 0 0, .int .i64 0, .bool false], .slice none 0 0], []⟩ 8 (by kernel_rfl) (by kernel_rfl) (by kernel_rfl) (by kernel_rfl)) ?_
  intro W base args ds gs before hval0 hW hcnd hsz0 _
  have hval : ∀ (j : Nat) t v, Try.f10.params[j]? = some t → args[j]? = some v → Value.okWide Try.prog W .any base t v := hval0
  have hW' := hW
  obtain ⟨p, q, hA0, hV, rfl, hfz, hnd⟩ := hW
  have hA : DataW.TrodAll enc Try.prog W 0 (fun _ => true) true Try.f10.params.toList args.toList ds p := hA0
  rw [Try.params10] at hA hval
  obtain ⟨v0, vs0, d0, ds0, p0, q0, hargs, rfl, rfl, h0, r0⟩ := trodAll_cons hA
  obtain ⟨v1, vs1, d1, ds1, p1, q1, rfl, rfl, rfl, h1, r1⟩ := trodAll_cons r0
  obtain ⟨rfl, rfl, rfl⟩ := trodAll_nil r1
  obtain rfl : args = #[v0, v1] := by cases args; simp_all
  obtain ⟨rfl, rfl⟩ := trodVars_none hV
  have k0 := h0
  have lt0 : ∀ x ∈ p0, x.block < W.heap.size := by obtain ⟨m, hm⟩ := k0; exact DataW.trod_lt m _ _ _ hm
  obtain ⟨cs0, rfl, _⟩ := okWide_struct Try.underlying25 (hval 0 25 v0 rfl rfl)
  obtain ⟨x0, A0, c0, B0, e0, hcs0, hl0, hm0, hC0, hE0⟩ := (by obtain ⟨fuel, hf⟩ := h0; exact Q.open_disk hf : ∃ (d : Q.Dk) (A0 : Option Addr) (c0 : Nat) (A1 : Option Addr) (c1 : Nat), cs0.toList = [.slice A0 d.s.length c0, .slice A1 d.p.length c1, .int .i64 d.left, .bool d.st] ∧ d.s.length ≤ c0 ∧ d.p.length ≤ c1 ∧ (Kd.slice 5 (Kd.int .u8)).C W A0 d.s.length d.s ∧ Q.k76.C W A1 d.p.length d.p)
  obtain rfl : cs0 = #[.slice A0 x0.s.length c0, .slice B0 x0.p.length e0, .int .i64 x0.left, .bool x0.st] := by cases cs0; simp_all
  have hD0 : Q.DiskV W (.agg #[.slice A0 x0.s.length c0, .slice B0 x0.p.length e0, .int .i64 x0.left, .bool x0.st]) x0 := ⟨_, _, _, _, rfl, hl0, hm0, hC0, hE0⟩
  obtain ⟨a1, len1, cap1, rfl⟩ := okWide_slice Try.underlying54 (hval 1 54 v1 rfl rfl)
  have k1 := h1
  have lt1 : ∀ x ∈ p1, x.block < W.heap.size := by obtain ⟨m, hm⟩ := k1; exact DataW.trod_lt m _ _ _ hm
  obtain ⟨l1, hlen1, hA1_, hP1⟩ : ∃ l : List Q.S57, len1 = l.length ∧ Q.k57.C W a1 l.length l ∧ ∀ x ∈ l, 0 ≤ x.f1 ∧ x.f1 < 256 ∧ 0 ≤ x.f2 ∧ x.f2 < 256 := by
    obtain ⟨fuel, hf⟩ := h1
    obtain ⟨A, c, l, he, hl, hC, hP⟩ := Q.open_acts hf
    cases he
    exact ⟨l, rfl, hC, hP⟩
  subst hlen1
  clear hA0 hval0 hsz0
  refine (Q.together_says _ x0 _ _ l1 W hD0 hA1_ (fun x hx => ⟨(hP1 x hx).1, (hP1 x hx).2.1⟩)).mono fun e W' ⟨he, bel⟩ => ?_
  subst he
  exact ⟨_, rfl, _, _, _, [], _, [], hW', trodAll_mk1 (shut_bool Try.underlying4 _), (trodAll_cons_mk (Below.trod laidOut (by kernel_rfl) (of_decide_eq_true (by kernel_rfl)) k0 bel lt0) (trodAll_cons_mk (Below.trod laidOut (by kernel_rfl) (of_decide_eq_true (by kernel_rfl)) k1 bel lt1) trodAll_mk0)), rfl, bel.frame _, fun h => by cases h⟩
theorem over : Rows.diskTogetherRow.holds Try.pinned (OpenSpec.ofChange Rows.diskTogetherSpec) :=
  OpenClaim.holds_of_wide 10 Try.f10 rfl rfl rfl rfl rfl rfl rfl ⟨rfl, rfl, rfl, rfl, rfl⟩ rfl rfl rfl rfl rfl (by kernel_rfl) Try.func10 (by kernel_rfl)
    (of_decide_eq_true (by kernel_rfl)) (by unfold Func.isWrapper; first | (rw [if_pos (by decide +kernel)]; kernel_rfl) | (rw [if_neg (by decide +kernel)]; exact ⟨rfl, rfl⟩))
    (fun os started H enc _ => lifted os started H enc)
theorem proved : Rows.DiskTogetherSaid := over
#print axioms proved
end Go.Proofs.Ytlnmjgkeiljniaa.diskTogether
namespace Go.Proofs.Ytlnmjgkeiljniaa
/-- The row, under a short name, for the claim. -/
theorem diskTogether_holds : Rows.DiskTogetherSaid := diskTogether.proved
end Go.Proofs.Ytlnmjgkeiljniaa
