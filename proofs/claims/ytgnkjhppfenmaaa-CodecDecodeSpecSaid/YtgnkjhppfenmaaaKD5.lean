/- The proof's texts, part 6 of 7. -/
import Derived.ChangeArms
import Derived.DataReads
import Derived.Deep.Slices
import Derived.ProofKit
import Derived.Test.YtgnkjhppfenmaaaKD4
set_option linter.unusedVariables false
set_option linter.unusedSimpArgs false
/- A value among the inputs, opened: its cells, its elements' row, its numbers' bounds. -/
namespace Go.Proofs.Ytgnkjhppfenmaaa.Q
open Go.RowKit Go.Proofs.YtgnkjhppfenmaaaW.PrintWords Go.Proofs.YtgnkjhppfenmaaaW.PrintLast Go.Proofs.YtgnkjhppfenmaaaW.PrintMore
set_option linter.unusedVariables false
section
variable {H : Type} {enc : TypeId × Value → H} {W : World} {sp : Nat → Bool} {held : Bool}
theorem cells3 : Try.prog.cellsOf 3 = 1 := by kernel_rfl
theorem cells9 : Try.prog.cellsOf 9 = 1 := by kernel_rfl
theorem cells22 : Try.prog.cellsOf 22 = 1 := by kernel_rfl
theorem cells24 : Try.prog.cellsOf 24 = 4 := by kernel_rfl
theorem open_val : ∀ fuel : Nat,
    (∀ cs x, DataW.trod enc Try.prog W 0 sp held fuel 24 cs = some x → ∃ (v : S24) (A : Option Addr) (c : Nat), cs = [.int .i64 v.f0, .int .i64 v.f1, .string v.f2, .slice A v.f3.length c] ∧ v.f3.length ≤ c ∧ k24.C W A v.f3.length v.f3 ∧ WfV v) ∧
    (∀ cs x, DataW.trod enc Try.prog W 0 sp held fuel 22 cs = some x → ∃ (A : Option Addr) (c : Nat) (l : List S24), cs = [.slice A l.length c] ∧ l.length ≤ c ∧ k24.C W A l.length l ∧ l.length ≤ 9223372036854775807 ∧ ∀ v ∈ l, WfV v)
  | 0 => ⟨fun cs x h => by simp [DataW.trod] at h, fun cs x h => by simp [DataW.trod] at h⟩
  | fuel + 1 => by
    obtain ⟨ih1, ih2⟩ := open_val fuel
    refine ⟨fun cs x h => ?_, fun cs x h => ?_⟩
    · obtain ⟨xs, n, hn, _, hlen, _, hf⟩ := DataW.trod_struct Try.underlying24 h
      obtain rfl : fuel = n := by omega
      rw [cells24] at hlen
      match cs, hlen with
      | [c0, c1, c2, c3], _ =>
        have g0 : DataW.trod enc Try.prog W 0 sp held fuel 3 [c0] = xs[0]? := by
          have h_ : DataW.trod enc Try.prog W 0 sp held fuel 3 (([c0, c1, c2, c3].drop 0).take (Try.prog.cellsOf 3)) = xs[0]? := hf 0 _ rfl
          rw [cells3] at h_
          exact h_
        have g1 : DataW.trod enc Try.prog W 0 sp held fuel 3 [c1] = xs[1]? := by
          have h_ : DataW.trod enc Try.prog W 0 sp held fuel 3 (([c0, c1, c2, c3].drop 1).take (Try.prog.cellsOf 3)) = xs[1]? := hf 1 _ rfl
          rw [cells3] at h_
          exact h_
        have g2 : DataW.trod enc Try.prog W 0 sp held fuel 9 [c2] = xs[2]? := by
          have h_ : DataW.trod enc Try.prog W 0 sp held fuel 9 (([c0, c1, c2, c3].drop 2).take (Try.prog.cellsOf 9)) = xs[2]? := hf 2 _ rfl
          rw [cells9] at h_
          exact h_
        have g3 : DataW.trod enc Try.prog W 0 sp held fuel 22 [c3] = xs[3]? := by
          have h_ : DataW.trod enc Try.prog W 0 sp held fuel 22 (([c0, c1, c2, c3].drop 3).take (Try.prog.cellsOf 22)) = xs[3]? := hf 3 _ rfl
          rw [cells22] at h_
          exact h_
        have t0 : ∃ y, xs[0]? = some y := ⟨_, List.getElem?_eq_getElem (by simp_all)⟩
        have t1 : ∃ y, xs[1]? = some y := ⟨_, List.getElem?_eq_getElem (by simp_all)⟩
        have t2 : ∃ y, xs[2]? = some y := ⟨_, List.getElem?_eq_getElem (by simp_all)⟩
        have t3 : ∃ y, xs[3]? = some y := ⟨_, List.getElem?_eq_getElem (by simp_all)⟩
        obtain ⟨y0, e0⟩ := t0
        obtain ⟨y1, e1⟩ := t1
        obtain ⟨y2, e2⟩ := t2
        obtain ⟨y3, e3⟩ := t3
        obtain ⟨n0, hc0, _, w0⟩ := DataW.trod_int Try.underlying3 (g0.trans e0)
        obtain ⟨n1, hc1, _, w1⟩ := DataW.trod_int Try.underlying3 (g1.trans e1)
        obtain ⟨s2, hc2, _, w2⟩ := DataW.trod_string Try.underlying9 (g2.trans e2)
        obtain ⟨A, c, l, hc3, hl, hC, hm, hw⟩ := ih2 _ _ (g3.trans e3)
        cases hc0
        cases hc1
        cases hc2
        cases hc3
        have b1 : -9223372036854775808 ≤ n1 ∧ n1 ≤ 9223372036854775807 := by simp only [Lit.wf, Bool.and_eq_true, decide_eq_true_eq] at w1; exact w1
        exact ⟨⟨n0, n1, s2, l⟩, A, c, rfl, hl, hC, .mk n0 n1 s2 l b1.1 b1.2 (by simpa [maxLen] using w2) hm hw⟩
    · rcases DataW.trod_slice Try.underlying22 h with ⟨rfl, _⟩ | ⟨a, len, cap, elems, rest, n, hn, rfl, _, _, hl, hm, hlen, hel, _, _⟩
      · exact ⟨none, 0, [], rfl, Nat.le_refl _, Kd.C_nil k24 W, by simp, fun v hv => by cases hv⟩
      · obtain rfl : fuel = n := by omega
        have hall : ∀ i : Nat, ∃ v : S24, i < len → ∃ cs, W.cells? 0 (a.add (i * 4)) 4 = some cs ∧ k24.K W v cs ∧ WfV v := by
          intro i
          by_cases hi : i < len
          · have h1 := hel i hi
            rw [cells24] at h1
            have h2 : elems[i]? = some (elems[i]'(by omega)) := List.getElem?_eq_getElem (by omega)
            rw [h2] at h1
            obtain ⟨cs, hcs, ht⟩ := Option.bind_eq_some_iff.mp h1
            obtain ⟨v, A, c, rfl, hlc, hC, hw⟩ := ih1 _ _ ht
            exact ⟨v, fun _ => ⟨_, hcs, k24_mk W v hlc hC, hw⟩⟩
          · exact ⟨z24, fun h => absurd h hi⟩
        have hm' : len ≤ 9223372036854775807 := by simp only [maxLen] at hm; omega
        refine ⟨some a, cap, (List.range len).map fun i => (hall i).choose, by simp, by simpa using hl, ?_, by simpa using hm', ?_⟩
        · refine ⟨rfl, by simpa using hm', fun _ => ⟨a, rfl, fun j p hp => ?_⟩⟩
          have hj : j < len := by
            have := (List.getElem?_eq_some_iff.1 hp).1
            simpa using this
          rw [List.getElem?_map, List.getElem?_eq_getElem (by simpa using hj)] at hp
          simp only [List.getElem_range, Option.map_some, Option.some.injEq] at hp
          subst hp
          obtain ⟨cs, hcs, hK, _⟩ := (hall j).choose_spec hj
          obtain ⟨_, hcl, hat⟩ := World.cells?_some hcs
          refine ⟨cs, hcl, hK, fun i u hu => ?_⟩
          have hi : i < 4 := by have := (List.getElem?_eq_some_iff.1 hu).1; omega
          have h5 := hat i hi
          rw [hu] at h5
          have ha : (a.add (j * 4)).add i = a.add (j * 4 + i) := Go.Deep.add_add a (j * 4) i
          show W.cell? (a.add (j * 4 + i)) = some u
          rw [← ha]
          exact h5
        · intro v hv
          obtain ⟨i, hi, rfl⟩ := List.mem_map.1 hv
          obtain ⟨cs, _, _, hw⟩ := (hall i).choose_spec (List.mem_range.1 hi)
          exact hw
theorem cells5 : Try.prog.cellsOf 5 = 1 := by kernel_rfl
theorem open_bytes {fuel : Nat} {A : Option Addr} {n c : Nat} {x : DataW H × List MemPlace} (h : DataW.trod enc Try.prog W 0 sp held fuel 27 [.slice A n c] = some x) :
    ∃ l : List Int, n = l.length ∧ l.length ≤ c ∧ (Kd.int .u8).C W A l.length l ∧ areBytes l = true := by
  rcases DataW.trod_slice Try.underlying27 h with ⟨hcs, _⟩ | ⟨a, len, cap, elems, rest, m, hn, hcs, _, _, hl, hm, hlen, hel, _, _⟩
  · cases hcs
    exact ⟨[], rfl, Nat.le_refl _, Kd.C_nil _ W, rfl⟩
  · cases hcs
    have hall : ∀ i : Nat, ∃ v : Int, i < n → W.cell? (a.add i) = some (.int .u8 v) ∧ 0 ≤ v ∧ v ≤ 255 := by
      intro i
      by_cases hi : i < n
      · have h1 := hel i hi
        rw [cells5, Nat.mul_one] at h1
        have h2 : elems[i]? = some (elems[i]'(by omega)) := List.getElem?_eq_getElem (by omega)
        rw [h2] at h1
        obtain ⟨cs, hcs, ht⟩ := Option.bind_eq_some_iff.mp h1
        obtain ⟨v, rfl, _, wv⟩ := DataW.trod_int Try.underlying5 ht
        obtain ⟨_, _, hat⟩ := World.cells?_some hcs
        have hb : 0 ≤ v ∧ v ≤ 255 := by simp only [Lit.wf, Bool.and_eq_true, decide_eq_true_eq] at wv; exact wv
        have h3 := hat 0 (by omega)
        rw [Go.Deep.add_add] at h3
        exact ⟨v, fun _ => ⟨by simpa using h3, hb.1, hb.2⟩⟩
      · exact ⟨0, fun h => absurd h hi⟩
    have hm' : n ≤ 9223372036854775807 := by simp only [maxLen] at hm; omega
    refine ⟨(List.range n).map fun i => (hall i).choose, by simp, by simpa using hl, ⟨rfl, by simpa using hm', fun _ => ⟨a, rfl, fun j p hp => ?_⟩⟩, ?_⟩
    · have hj : j < n := by
        have := (List.getElem?_eq_some_iff.1 hp).1
        simpa using this
      rw [List.getElem?_map, List.getElem?_eq_getElem (by simpa using hj)] at hp
      simp only [List.getElem_range, Option.map_some, Option.some.injEq] at hp
      subst hp
      refine ⟨[.int .u8 (hall j).choose], rfl, rfl, fun i u hu => ?_⟩
      match i, hu with
      | 0, hu =>
        cases hu
        have := ((hall j).choose_spec hj).1
        simpa [show (Kd.int .u8).sz = 1 from rfl] using this
      | i + 1, hu => simp at hu
    · refine List.all_eq_true.2 fun v hv => ?_
      obtain ⟨i, hi, rfl⟩ := List.mem_map.1 hv
      have := ((hall i).choose_spec (List.mem_range.1 hi)).2
      simp
      omega
end
theorem heap24 : Kd.Heap k24 := Kd.heap_fix fun d hd => Kd.heap_iso _ (Kd.heap_pair (Kd.heap_int _) (Kd.heap_pair (Kd.heap_int _) (Kd.heap_pair Kd.heap_string (Kd.heap_slice 24 hd))))
theorem V24_of_C {W : World} {base : Nat} {A : Option Addr} {c : Nat} {l : List S24} (hl : l.length ≤ c) (hC : k24.C W A l.length l) : Kd.V k24 24 W base (fun _ => True) (.slice A l.length c) l := Kd.V_mk hl (fun W' hW => heap24.C (fun k hk => hW k trivial hk) hC)
end Go.Proofs.Ytgnkjhppfenmaaa.Q
