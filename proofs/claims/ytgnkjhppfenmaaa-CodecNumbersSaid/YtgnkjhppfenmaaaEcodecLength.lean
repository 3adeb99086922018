/- The reader of codec: length. -/
import Derived.Test.YtgnkjhppfenmaaaEcodecNumber
namespace Go.Proofs.Ytgnkjhppfenmaaa.Q
open Go.RowKit Go.Proofs.YtgnkjhppfenmaaaW.PrintWords Go.Proofs.YtgnkjhppfenmaaaW.PrintLast Go.Proofs.YtgnkjhppfenmaaaW.PrintMore
/-- how the reading of a length ends -/
def LenEnds (w0 w' : World) (g : Nat) (r : Option (Nat × List Int)) (e : Ending) : Prop := match r with
  | some (m, ys) => e = .returned (.int .i64 (m : Int)) ∧ RD w0 w' g ys ∧ m ≤ ys.length
  | none => e = .panicked codeErr
theorem rdNumA_bytes : ∀ (xs : List Int) (i : Nat) (u : Int) (v : Int) (ys : List Int), rdNumA i u xs = some (v, ys) → areBytes xs = true → areBytes ys = true
  | [], _, _, _, _, h, _ => by cases h
  | c :: xs, i, u, v, ys, h, hx => by
    rw [rdNumA] at h
    split at h
    · split at h
      · cases h
        exact bytes_tail hx
      · exact rdNumA_bytes xs _ _ _ _ h (bytes_tail hx)
    · cases h
theorem rdNumA_nonneg : ∀ (xs : List Int) (i : Nat) (u : Int) (v : Int) (ys : List Int), rdNumA i u xs = some (v, ys) → 0 ≤ u → 0 ≤ v
  | [], _, _, _, _, h, _ => by cases h
  | c :: xs, i, u, v, ys, h, hu => by
    have hp : (0 : Int) < 2 ^ (7 * i) := by exact_mod_cast Nat.two_pow_pos (7 * i)
    have h1 : 0 ≤ c % 128 * 2 ^ (7 * i) := Int.mul_nonneg (by omega) (by omega)
    rw [rdNumA] at h
    split at h
    · split at h
      · cases h
        omega
      · exact rdNumA_nonneg xs _ _ _ _ h (by omega)
    · cases h
set_option maxHeartbeats 8000000 in
set_option maxRecDepth 100000 in
theorem length_ends {w0 w : World} {g : Nat} {xs : List Int} (hB : Below w0.heap.size w0 w) (hg : w0.heap.size ≤ g) (h : RD w0 w g xs) (hx : areBytes xs = true) :
    Calls Try.prog 43 #[.pointer (some ⟨g, 0, none⟩)] w fun e w' => LenEnds w0 w' g (rdLen xs) e ∧ RK w0 w w' g := by
  have C := Aside0.mk (number_ends hB hg h hx)
  cases hn : rdNum xs with
  | none =>
    have hl : rdLen xs = none := by rw [rdLen, hn]
    rw [hn] at C
    have HL := Aside0.mk hl
    clear hn hl
    go_enter Try.func43, Try.ntmps43
    go_wp2_with (go_at_call 42; (refine C.out.mono ?_); rintro e w1 ⟨rfl, hk⟩)
    exact ⟨rfl, by rw [HL.out]; exact rfl, hk⟩
  | some p =>
    obtain ⟨u, ys⟩ := p
    have hu := rdNumA_nonneg xs 0 0 u ys hn (by omega)
    have hl : rdLen xs = if u ≤ (ys.length : Int) then some (u.toNat, ys) else none := by rw [rdLen, hn]
    rw [hn] at C
    have HL := Aside0.mk hl
    clear hn hl
    have hu0 := eq_true hu
    go_enter Try.func43, Try.ntmps43
    go_upto_region 2 with (go_at_call 42; (refine C.out.mono ?_); rintro e w1 ⟨⟨rfl, hr⟩, hk⟩)
    obtain ⟨A, c, hb, hlc, hC⟩ := hr
    have hz : w1.cell? ⟨g, 0, none⟩ = some (.slice A ys.length c) := (blk_cell hb 0).trans rfl
    have hw : IntKind.u64.wrap (ys.length : Int) = (ys.length : Int) := by have := hC.2.1; rw [u64w]; omega
    have hb' := Aside0.mk (RD.mk' hb rfl hlc hC)
    have hy := Aside0.mk hC.2.1
    clear hb hlc hC
    by_cases hle : u ≤ (ys.length : Int)
    · have hd : decide (u ≤ IntKind.u64.wrap (ys.length : Int)) = true := by rw [hw]; exact decide_eq_true hle
      have hd2 : decide (u ≤ (ys.length : Int)) = true := decide_eq_true hle
      have HW := Aside0.mk hw
      have HLE := Aside0.mk hle
      clear hw hle hu
      go_wp2_with (go_at_call 29; (refine (want_ok _ _).mono ?_); rintro e w2 ⟨rfl, rfl⟩)
      go_ret
      refine ⟨?_, hk⟩
      rw [HL.out, if_pos HLE.out]
      have hwu : wrap64 u = (u.toNat : Int) := by have h1 := HLE.out; have h2 := hy.out; have h3 := of_eq_true hu0; unfold wrap64; omega
      refine ⟨?_, hb'.out, by have := HLE.out; omega⟩
      show Ending.returned (.int .i64 (wrap64 u)) = _
      rw [hwu]
    · have hd : decide (u ≤ IntKind.u64.wrap (ys.length : Int)) = false := by rw [hw]; exact decide_eq_false hle
      have hd2 : decide (u ≤ (ys.length : Int)) = false := decide_eq_false hle
      have HW := Aside0.mk hw
      have HLE := Aside0.mk hle
      clear hw hle hu
      go_wp2_with (go_at_call 29; (refine (want_not _ _).mono ?_); rintro e w2 ⟨rfl, rfl⟩)
      exact ⟨rfl, by rw [HL.out, if_neg (by have := HLE.out; omega)]; exact rfl, hk⟩
end Go.Proofs.Ytgnkjhppfenmaaa.Q
