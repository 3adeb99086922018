/- The contract of codec.formed. -/
import Derived.Test.YtgnkjhppfenmaaaSpec01
namespace Go.Proofs.Ytgnkjhppfenmaaa.Q
open Go.RowKit Go.Proofs.YtgnkjhppfenmaaaW.PrintWords Go.Proofs.YtgnkjhppfenmaaaW.PrintLast Go.Proofs.YtgnkjhppfenmaaaW.PrintMore
attribute [local go_sem] max2_int min2_int max_two min_two max_three min_three max_four min_four
def codec_formed.f (a0_0 : Int) (a0_1 : Int) (a0_2 : ByteArray) (l0_3 : List (S24)) : Option (Int × Bool) := some (formedV ⟨a0_0, a0_1, a0_2, l0_3⟩)
set_option maxHeartbeats 2000000 in
set_option maxRecDepth 100000 in
theorem formed_at (a0_0 : Int) (a0_1 : Int) (a0_2 : ByteArray) (A0_3 : Option Addr) (c0_3 : Nat) (l0_3 : List (S24)) (w : World) (hr0_3 : Kd.C k24 w A0_3 l0_3.length l0_3) (hc0_3 : l0_3.length ≤ c0_3)
    (ih : ∀ x ∈ l0_3, ∀ (A : Option Addr) (c : Nat) (w : World), Kd.C k24 w A x.f3.length x.f3 → x.f3.length ≤ c → Calls Try.prog 24 #[.agg #[.int .i64 x.f0, .int .i64 x.f1, .string x.f2, .slice A x.f3.length c]] w fun e w' => e = .returned (.tuple #[.int .i64 (formedV x).1, .bool (formedV x).2]) ∧ Below w.heap.size w w') :
    Calls Try.prog 24 #[.agg #[.int .i64 a0_0, .int .i64 a0_1, .string a0_2, .slice A0_3 l0_3.length c0_3]] w fun e w' => e = .returned (.tuple #[.int .i64 (formedV ⟨a0_0, a0_1, a0_2, l0_3⟩).1, .bool (formedV ⟨a0_0, a0_1, a0_2, l0_3⟩).2]) ∧ Below w.heap.size w w' := by
  have hu24 := Try.underlying24
  have HR := Aside0.mk hr0_3
  have IH := Aside0.mk ih
  clear hr0_3 ih
  go_enter Try.func24, Try.ntmps24
  go_upto_region 1 with (fail)
  go_cut [4] (fun v4 wc => v4 = .pointer (some ⟨w.heap.size + 1, 0, none⟩) ∧ Aside0 (wc.heap[w.heap.size]? = some (.cells #[.int .i64 a0_0, .int .i64 a0_1, .string a0_2, .slice A0_3 l0_3.length c0_3] 24 (0, 0))) ∧ Aside0 (wc.heap[w.heap.size + 1]? = some (.cells #[.bool false, .bool (a0_2.toList.isEmpty && (l0_3.length : Int) == 0), .bool (a0_1 == 0 && (l0_3.length : Int) == 0), .bool (a0_1 == 0 && a0_2.toList.isEmpty)] 69 (0, 0))) ∧ Aside0 (Below w.heap.size w wc))
  case first =>
    cases e1 : a0_2.toList.isEmpty <;> cases e2 : ((l0_3.length : Int) == 0) <;> cases e3 : (a0_1 == 0)
    all_goals
      go_wp2
      go_meet
    all_goals
      refine ⟨rfl, ⟨blk_alloc (blk_new _ _) _⟩, ⟨?_⟩, ⟨below_alloc (below_alloc (Below.refl _ _) _) _⟩⟩
      have hs : (w.alloc (.cells #[.int .i64 a0_0, .int .i64 a0_1, .string a0_2, .slice A0_3 l0_3.length c0_3] 24)).heap.size = w.heap.size + 1 := by simp
      rw [e1, e2, e3, ← hs]
      exact blk_new _ _
  case rest =>
    obtain ⟨rfl, BK, BA, HB⟩ := hcut
    obtain ⟨u1, E1⟩ : ∃ u, (a0_2.toList.isEmpty && (l0_3.length : Int) == 0) = u := ⟨_, rfl⟩
    obtain ⟨u2, E2⟩ : ∃ u, (a0_1 == 0 && (l0_3.length : Int) == 0) = u := ⟨_, rfl⟩
    obtain ⟨u3, E3⟩ : ∃ u, (a0_1 == 0 && a0_2.toList.isEmpty) = u := ⟨_, rfl⟩
    rw [E1, E2, E3] at BA
    have F1 := Aside0.mk E1
    have F2 := Aside0.mk E2
    have F3 := Aside0.mk E3
    clear E1 E2 E3
    have hz0 : wc.cell? ⟨w.heap.size, 0, none⟩ = some (.int .i64 a0_0) := (blk_cell BK.out 0).trans rfl
    have hz3 : wc.cell? ⟨w.heap.size, 3, none⟩ = some (.slice A0_3 l0_3.length c0_3) := (blk_cell BK.out 3).trans rfl
    have ha1 : wc.cell? ⟨w.heap.size + 1, 1, none⟩ = some (.bool u1) := (blk_cell BA.out 1).trans rfl
    have ha2 : wc.cell? ⟨w.heap.size + 1, 2, none⟩ = some (.bool u2) := (blk_cell BA.out 2).trans rfl
    have ha3 : wc.cell? ⟨w.heap.size + 1, 3, none⟩ = some (.bool u3) := (blk_cell BA.out 3).trans rfl
    by_cases k0 : a0_0 < 1
    · have k0b : decide (a0_0 < 1) = true := decide_eq_true k0
      go_wp2
      go_ret2
      have hf := formedV_not (l := l0_3) (usedV_out a0_0 a0_1 a0_2 l0_3.length (.inl k0))
      exact ⟨by rw [hf]; rfl, HB.out⟩
    by_cases k4 : 3 < a0_0
    · have k0b : decide (a0_0 < 1) = false := decide_eq_false k0
      have k4b : decide (3 < a0_0) = true := decide_eq_true k4
      go_wp2
      go_ret2
      have hf := formedV_not (l := l0_3) (usedV_out a0_0 a0_1 a0_2 l0_3.length (.inr k4))
      exact ⟨by rw [hf]; rfl, HB.out⟩
    have k3 : a0_0 = 1 ∨ a0_0 = 2 ∨ a0_0 = 3 := by omega
    clear k0 k4
    rcases k3 with rfl | rfl | rfl
    · have hu : usedV 1 a0_1 a0_2 l0_3.length = u1 := by rw [← F1.out]; exact usedV_one _ _ _
      cases u1 with
      | false =>
        go_wp2
        go_ret2
        exact ⟨by rw [formedV_not hu]; rfl, HB.out⟩
      | true =>
        go_wp2
        go_ret2
        exact ⟨by rw [formedV_plain hu (by decide)]; rfl, HB.out⟩
    · have hu : usedV 2 a0_1 a0_2 l0_3.length = u2 := by rw [← F2.out]; exact usedV_two _ _ _
      cases u2 with
      | false =>
        go_wp2
        go_ret2
        exact ⟨by rw [formedV_not hu]; rfl, HB.out⟩
      | true =>
        go_wp2
        go_ret2
        exact ⟨by rw [formedV_plain hu (by decide)]; rfl, HB.out⟩
    · have hu : usedV 3 a0_1 a0_2 l0_3.length = u3 := by rw [← F3.out]; exact usedV_three _ _ _
      cases u3 with
      | false =>
        go_wp2
        go_ret2
        exact ⟨by rw [formedV_not hu]; rfl, HB.out⟩
      | true =>
        have hv := Aside0.mk hu
        clear hu
        go_wp2
        go_loopg [2, 57] l0_3.length (fun kq v2 v57 w' => ∃ (i : Int) (d : Int), v2 = .int .i64 d ∧ v57 = .int .i64 i ∧ Aside0 (0 ≤ i ∧ (kq : Int) + i = l0_3.length) ∧ Aside0 (formedL (l0_3.drop i.toNat) d = formedL l0_3 0) ∧ Aside0 (w'.heap[w.heap.size]? = some (.cells #[.int .i64 3, .int .i64 a0_1, .string a0_2, (.slice A0_3 l0_3.length c0_3)] 24 (0, 0))) ∧ Aside0 (Below w.heap.size w w'))
        case atStart => exact ⟨0, 0, rfl, rfl, ⟨by omega⟩, ⟨rfl⟩, BK, HB⟩
        case round =>
          clear hz0 hz3 ha1 ha2 ha3 BA BK HB
          obtain ⟨i, d, rfl, rfl, HI, HF, BK, HB⟩ := hrel
          by_cases hi : i < l0_3.length
          · have hi0 : decide (i < (l0_3.length : Int)) = true := decide_eq_true hi
            have hm := Aside0.mk (rd_mem l0_3 i HI.out.1 hi)
            have hd := Aside0.mk (drop_rd l0_3 i HI.out.1 hi)
            have hw := Aside0.mk (wrap_at i l0_3.length HI.out.1 hi HR.out.2.1)
            obtain ⟨ad, A3, c3, ha, hx0, hx1, hx2, hx3, hl3, hi3⟩ := at_T24 HR.out i HI.out.1 hi
            cases ha
            replace hx0 := (HB.out.cell (World.block_lt_of_cell? w _ hx0)).trans hx0
            replace hx1 := (HB.out.cell (World.block_lt_of_cell? w _ hx1)).trans hx1
            replace hx2 := (HB.out.cell (World.block_lt_of_cell? w _ hx2)).trans hx2
            replace hx3 := (HB.out.cell (World.block_lt_of_cell? w _ hx3)).trans hx3
            have C := Aside0.mk (IH.out _ hm.out A3 c3 (wr.alloc (.cells #[.int .i64 (rd_T24 l0_3 i).f0, .int .i64 (rd_T24 l0_3 i).f1, .string (rd_T24 l0_3 i).f2, .slice A3 (rd_T24 l0_3 i).f3.length c3] 24)) (Kd.C_alloc (Kd.C_below hi3 HB.out) _) hl3)
            have hi1 := eq_true HI.out.1
            replace hi := eq_true hi
            clear hi3 hm
            generalize rd_T24 l0_3 i = x at *
            obtain ⟨xn, xok, hx⟩ : ∃ n ok, formedV x = (n, ok) := ⟨_, _, rfl⟩
            rw [hx] at C
            have hx' := Aside0.mk hx
            clear hx
            cases xok with
            | true =>
              have hF : formedL (l0_3.drop (i + 1).toNat) (if d < xn then xn else d) = formedL l0_3 0 := by
                rw [← HF.out, hd.out, formedL, hx'.out]
              have HF2 := Aside0.mk hF
              clear hF
              by_cases hmx : d < xn
              all_goals
                go_wp2_with ((go_at_call 24; (refine C.out.mono ?_); rintro e w1 ⟨rfl, hb⟩; have BK1 := Aside0.mk (blk_below (blk_alloc BK.out _) hb); have HB1 := Aside0.mk (below_step (below_alloc HB.out _) hb); clear hb))
                go_roundg (gk - 1)
                case measure => have := HI.out; have := of_eq_true hi; omega
                case rel =>
                  refine ⟨i + 1, _, rfl, ?_, ⟨by have := HI.out; have := of_eq_true hi; omega⟩, ?_, BK1, HB1⟩
                  · first | rfl | rw [hw.out]
                  · first | exact ⟨by have := HF2.out; rwa [if_pos hmx] at this⟩ | exact ⟨by have := HF2.out; rwa [if_neg (by omega)] at this⟩
            | false =>
              have hF : formedL l0_3 0 = none := by
                rw [← HF.out, hd.out, formedL, hx'.out]
              have HF2 := Aside0.mk hF
              clear hF
              go_wp2_with ((go_at_call 24; (refine C.out.mono ?_); rintro e w1 ⟨rfl, hb⟩; have BK1 := Aside0.mk (blk_below (blk_alloc BK.out _) hb); have HB1 := Aside0.mk (below_step (below_alloc HB.out _) hb); clear hb))
              go_ret2
              exact ⟨by rw [formedV_none hv.out HF2.out]; rfl, HB1.out⟩
          · have hi0 : decide (i < (l0_3.length : Int)) = false := decide_eq_false hi
            have hF : formedL l0_3 0 = some d := by
              rw [← HF.out, List.drop_eq_nil_of_le (by omega), formedL]
            have HF2 := Aside0.mk hF
            clear hF
            go_wp2
            go_ret2
            exact ⟨by rw [formedV_some hv.out HF2.out]; rfl, HB.out⟩

theorem formed_all : ∀ (n : Nat) (x : S24), SizeOf.sizeOf x < n → ∀ (A : Option Addr) (c : Nat) (w : World), Kd.C k24 w A x.f3.length x.f3 → x.f3.length ≤ c → Calls Try.prog 24 #[.agg #[.int .i64 x.f0, .int .i64 x.f1, .string x.f2, .slice A x.f3.length c]] w fun e w' => e = .returned (.tuple #[.int .i64 (formedV x).1, .bool (formedV x).2]) ∧ Below w.heap.size w w'
  | 0, _, h => absurd h (by omega)
  | n + 1, ⟨k, m, s, l⟩, h => fun A c w hr hc => formed_at k m s A c l w hr hc fun x hx => formed_all n x (by have h1 := List.sizeOf_lt_of_mem hx; have h2 : SizeOf.sizeOf (S24.mk k m s l) = 1 + SizeOf.sizeOf k + SizeOf.sizeOf m + SizeOf.sizeOf s + SizeOf.sizeOf l := (by simp); omega)

theorem codec_formed.calls (a0_0 : Int) (a0_1 : Int) (a0_2 : ByteArray) (A0_3 : Option Addr) (c0_3 : Nat) (l0_3 : List (S24)) (r1 : Int) (r2 : Bool) (w : World) (hr0_3 : Kd.C k24 w A0_3 l0_3.length l0_3) (hc0_3 : l0_3.length ≤ c0_3) (h : codec_formed.f a0_0 a0_1 a0_2 l0_3 = some (r1, r2)) :
    Calls Try.prog 24 #[.agg #[.int .i64 a0_0, .int .i64 a0_1, .string a0_2, .slice A0_3 l0_3.length c0_3]] w fun e w' => e = .returned (.tuple #[.int .i64 r1, .bool r2]) ∧ Below w.heap.size w w' := by
  have h2 := Option.some.inj h
  have := formed_all _ ⟨a0_0, a0_1, a0_2, l0_3⟩ (Nat.lt_succ_self _) A0_3 c0_3 w hr0_3 hc0_3
  rw [h2] at this
  exact this
end Go.Proofs.Ytgnkjhppfenmaaa.Q
