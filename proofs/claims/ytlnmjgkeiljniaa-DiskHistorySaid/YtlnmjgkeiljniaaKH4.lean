/- The proof's texts, part 5 of 7. -/
import Derived.Test.YtlnmjgkeiljniaaKH3
set_option linter.unusedVariables false
set_option linter.unusedSimpArgs false
namespace Go.Proofs.Ytlnmjgkeiljniaa.Q
open Go.RowKit Go.Proofs.YtlnmjgkeiljniaaW.PrintWords Go.Proofs.YtlnmjgkeiljniaaW.PrintLast Go.Proofs.YtlnmjgkeiljniaaW.PrintMore
attribute [local go_sem] max2_int min2_int max_two min_two max_three min_three max_four min_four   -- for this text's walks alone
set_option linter.unusedVariables false
set_option linter.unusedSimpArgs false

/-! ### sizarref45_Write: function 27 -/
mutual
def sizarref45_Write.j0 : Nat → Int → List Int → Bool → List (List Int) → List (S76) → Int → Bool → Option ((List (List Int)) × (List (S76)) × Int × Bool × Int)
  | 0, _, _, _, _, _, _, _ => none
  | k + 1, x1, x2, x26, x102000, x102001, x102002, x102003 => if x26 = true then (some (([] : List (List Int)), ([] : List (S76)), 0, false, 450)) else (if (x2.length : Int) > 128 then (some (([] : List (List Int)), ([] : List (S76)), 0, false, 1)) else (if (x102001.length : Int) = 4096 then (some (([] : List (List Int)), ([] : List (S76)), 0, false, 2)) else ((some (([] : List Int) : List Int)).bind fun y104 => (if y104.length + x2.length < 140737488355328 then (sizarref45_Write.l0 k x1 (y104 ++ x2) x102000 x102001 x102002 x102003) else (none)))))
def sizarref45_Write.l0 : Nat → Int → List Int → List (List Int) → List (S76) → Int → Bool → Option ((List (List Int)) × (List (S76)) × Int × Bool × Int)
  | 0, _, _, _, _, _, _ => none
  | k + 1, x1, x8, x102000, x102001, x102002, x102003 => if (x8.length : Int) < 128 then (if x8.length < 140737488355328 then (sizarref45_Write.l0 k x1 (x8 ++ [0]) x102000 x102001 x102002 x102003) else (none)) else ((some (([] : List (S76)) : List (S76))).bind fun y113 => (if y113.length + x102001.length < 4398046511104 then ((some (y113 ++ x102001 : List (S76))).bind fun y116 => (if y116.length < 4398046511104 then (some (x102000, (y116 ++ [(⟨x1, x8⟩ : S76)]), x102002, x102003, 0)) else (none))) else (none)))
end
def sizarref45_Write.f (k : Nat) (l0_0 : List (List Int)) (l0_1 : List (S76)) (a0_2 : Int) (a0_3 : Bool) (a1 : Int) (l2 : List Int) : Option ((List (List Int)) × (List (S76)) × Int × Bool × Int) := (sizarref45_Check.f k l0_0 l0_1 a0_2 a0_3).bind fun t103 => (if t103 = 0 then (if a0_3 = true then (sizarref45_Write.j0 k a1 l2 true l0_0 l0_1 a0_2 a0_3) else (if a1 < 0 then (sizarref45_Write.j0 k a1 l2 true l0_0 l0_1 a0_2 a0_3) else (sizarref45_Write.j0 k a1 l2 (decide (a1 ≥ (l0_0.length : Int))) l0_0 l0_1 a0_2 a0_3))) else (sizarref45_Write.j0 k a1 l2 true l0_0 l0_1 a0_2 a0_3))
set_option maxRecDepth 100000 in
theorem sizarref45_Write.mono_l : ∀ k, (∀ y0 y1 y2 y3 y4 y5 y6, LeO (sizarref45_Write.j0 k y0 y1 y2 y3 y4 y5 y6) (sizarref45_Write.j0 (k + 1) y0 y1 y2 y3 y4 y5 y6)) ∧ (∀ y0 y1 y2 y3 y4 y5, LeO (sizarref45_Write.l0 k y0 y1 y2 y3 y4 y5) (sizarref45_Write.l0 (k + 1) y0 y1 y2 y3 y4 y5))
  | 0 => ⟨fun _ _ _ _ _ _ _ r h => (by unfold sizarref45_Write.j0 at h; cases h), fun _ _ _ _ _ _ r h => (by unfold sizarref45_Write.l0 at h; cases h)⟩
  | k + 1 => by
    obtain ⟨ih0, ih1⟩ := sizarref45_Write.mono_l k
    refine ⟨?_, ?_⟩
    · intro y0 y1 y2 y3 y4 y5 y6
      unfold sizarref45_Write.j0
      repeat' first
      | (with_reducible exact ih0 _ _ _ _ _ _ _)
      | (with_reducible exact ih1 _ _ _ _ _ _)
      | (with_reducible exact sizarref45_Check.mono _ _ _ _ _)
      | (with_reducible exact LeO.refl _)
      | (with_reducible exact LeO.none _)
      | (with_reducible refine LeO.ite ?_ ?_)
      | (with_reducible refine LeO.bind ?_ (fun _ => ?_))
      | exact ih0 _ _ _ _ _ _ _
      | exact ih1 _ _ _ _ _ _
      | exact sizarref45_Check.mono _ _ _ _ _
      | exact LeO.none _
      | refine LeO.ite ?_ ?_
      | refine LeO.bind ?_ (fun _ => ?_)
    · intro y0 y1 y2 y3 y4 y5
      unfold sizarref45_Write.l0
      repeat' first
      | (with_reducible exact ih0 _ _ _ _ _ _ _)
      | (with_reducible exact ih1 _ _ _ _ _ _)
      | (with_reducible exact sizarref45_Check.mono _ _ _ _ _)
      | (with_reducible exact LeO.refl _)
      | (with_reducible exact LeO.none _)
      | (with_reducible refine LeO.ite ?_ ?_)
      | (with_reducible refine LeO.bind ?_ (fun _ => ?_))
      | exact ih0 _ _ _ _ _ _ _
      | exact ih1 _ _ _ _ _ _
      | exact sizarref45_Check.mono _ _ _ _ _
      | exact LeO.none _
      | refine LeO.ite ?_ ?_
      | refine LeO.bind ?_ (fun _ => ?_)
theorem sizarref45_Write.mono : ∀ a0 a1 a2 a3 a4 a5 k, LeO (sizarref45_Write.f k a0 a1 a2 a3 a4 a5) (sizarref45_Write.f (k + 1) a0 a1 a2 a3 a4 a5) := by
  intro a0 a1 a2 a3 a4 a5 k
  obtain ⟨ih0, ih1⟩ := sizarref45_Write.mono_l k
  unfold sizarref45_Write.f
  repeat' first
      | (with_reducible exact ih0 _ _ _ _ _ _ _)
      | (with_reducible exact ih1 _ _ _ _ _ _)
      | (with_reducible exact sizarref45_Check.mono _ _ _ _ _)
      | (with_reducible exact LeO.refl _)
      | (with_reducible exact LeO.none _)
      | (with_reducible refine LeO.ite ?_ ?_)
      | (with_reducible refine LeO.bind ?_ (fun _ => ?_))
      | exact ih0 _ _ _ _ _ _ _
      | exact ih1 _ _ _ _ _ _
      | exact sizarref45_Check.mono _ _ _ _ _
      | exact LeO.none _
      | refine LeO.ite ?_ ?_
      | refine LeO.bind ?_ (fun _ => ?_)
set_option maxHeartbeats 8000000 in
set_option maxRecDepth 100000 in
theorem sizarref45_Write.calls (k : Nat) (P0_0_ : Nat → Prop) (A0_0 : Option Addr) (c0_0 : Nat) (l0_0 : List (List Int)) (P0_1_ : Nat → Prop) (A0_1 : Option Addr) (c0_1 : Nat) (l0_1 : List (S76)) (a0_2 : Int) (a0_3 : Bool) (a1 : Int) (A2 : Option Addr) (c2 : Nat) (l2 : List Int) (r1 : List (List Int)) (r2 : List (S76)) (r3 : Int) (r4 : Bool) (r5 : Int) (w : World) (hs0_0 : Kd.V (Kd.slice 5 (Kd.int .u8)) 35 w w.heap.size (fun k_ => P0_0_ k_) (.slice A0_0 l0_0.length c0_0) l0_0) (hs0_1 : Kd.V k76 76 w w.heap.size (fun k_ => P0_1_ k_) (.slice A0_1 l0_1.length c0_1) l0_1) (hr2 : Kd.C (Kd.int .u8) w A2 l2.length l2) (hc2 : l2.length ≤ c2) (h : sizarref45_Write.f k l0_0 l0_1 a0_2 a0_3 a1 l2 = some (r1, r2, r3, r4, r5)) :
    Calls Try.prog 27 #[.agg #[.slice A0_0 l0_0.length c0_0, .slice A0_1 l0_1.length c0_1, .int .i64 a0_2, .bool a0_3], .int .i64 a1, .slice A2 l2.length c2] w fun e w' => ∃ v0_ v1_ : Value, e = .returned (.tuple #[.agg #[v0_, v1_, .int .i64 r3, .bool r4], .int .i64 r5]) ∧ Kd.V (Kd.slice 5 (Kd.int .u8)) 35 w' w.heap.size (fun k_ => ((P0_0_ k_ ∨ P0_1_ k_) ∨ w.heap.size ≤ k_) ∧ some k_ ≠ (v1_ : Value).ownBlock) v0_ r1 ∧ Kd.N k76 76 w' w.heap.size (fun k_ => ((P0_0_ k_ ∨ P0_1_ k_) ∨ w.heap.size ≤ k_)) v1_ r2 ∧ Below w.heap.size w w' := by
  have hu25 := Try.underlying25
  have hu76 := Try.underlying76
  have HO0_0 := Aside0.mk (show Kd.V (Kd.slice 5 (Kd.int .u8)) 35 w w.heap.size (fun k_ => ((P0_0_ k_ ∨ P0_1_ k_) ∨ w.heap.size ≤ k_)) (.slice A0_0 l0_0.length c0_0) l0_0 from Kd.V_mono hs0_0 (fun k_ hk => .inl (.inl hk)))
  have HO0_1 := Aside0.mk (show Kd.V k76 76 w w.heap.size (fun k_ => ((P0_0_ k_ ∨ P0_1_ k_) ∨ w.heap.size ≤ k_)) (.slice A0_1 l0_1.length c0_1) l0_1 from Kd.V_mono hs0_1 (fun k_ hk => .inl (.inr hk)))
  have HR2 := Aside0.mk hr2
  have HC2 := Aside0.mk hc2
  clear hr2 hc2
  have HB := Aside0.mk (Below.refl w.heap.size w)
  have H : ((sizarref45_Check.f k l0_0 l0_1 a0_2 a0_3).bind fun t103 => (if t103 = 0 then (if a0_3 = true then (sizarref45_Write.j0 k a1 l2 true l0_0 l0_1 a0_2 a0_3) else (if a1 < 0 then (sizarref45_Write.j0 k a1 l2 true l0_0 l0_1 a0_2 a0_3) else (sizarref45_Write.j0 k a1 l2 (decide (a1 ≥ (l0_0.length : Int))) l0_0 l0_1 a0_2 a0_3))) else (sizarref45_Write.j0 k a1 l2 true l0_0 l0_1 a0_2 a0_3))) = some (r1, r2, r3, r4, r5) := h
  clear h
  have HC4 := Aside0.mk H
  clear H
  go_enter Try.func27, Try.ntmps27
  go_upto_region 1 with (first | ((with_reducible refine gate_dst (N := 3) rfl ?_); (try (refine gate_guard (by rfl) ?_; dsimp only)); refine box_event ?hg (N := 3) ?hd (cs := #[.slice A0_0 l0_0.length c0_0, .slice A0_1 l0_1.length c0_1, .int .i64 a0_2, .bool a0_3]) (t := 25) ?hr ?_; (case hd => rfl); (case hg => rfl); (case hr => first | (go_simp; done) | (go_simp; rfl)); intro gb101 hg w5 hbox hb; have n0_ := Aside0.mk (Kd.V_below (Kd.V_elderB (by (with_reducible repeat (first | apply Kd.V_alloc | apply Kd.V_drewN | apply Kd.V_drew)); exact HO0_0.out) gb101 (Nat.le_of_eq hg.symm)) hb); have n1_ := Aside0.mk (Kd.V_below (Kd.V_elderB (by (with_reducible repeat (first | apply Kd.V_alloc | apply Kd.V_drewN | apply Kd.V_drew)); exact HO0_1.out) gb101 (Nat.le_of_eq hg.symm)) hb); have n2_ := Aside0.mk (below_step (by repeat (first | (with_reducible first | exact HB.out | apply below_alloc | apply pw_below_drewN | apply below_drew1) | exact HB.out)) hb); have n3_ := Aside0.mk (hbox); have n4_ := Aside0.mk ((by rw [hg]; exact (below_size (by repeat (first | (with_reducible first | exact HB.out | apply below_alloc | apply pw_below_drewN | apply below_drew1) | exact HB.out))) : w.heap.size ≤ gb101)); have n5_ := Aside0.mk ((by rw [hg]; exact (below_size (by repeat (first | (with_reducible first | exact HB.out | apply below_alloc | apply pw_below_drewN | apply below_drew1) | exact HB.out))) : w.heap.size ≤ gb101)); clear HO0_0; clear HO0_1; clear HB; have HO0_0 := n0_; have HO0_1 := n1_; have HB := n2_; have BK101 := n3_; have GW101 := n4_; have GE101 := n5_; clear n0_ n1_ n2_ n3_ n4_ n5_; clear hb hbox hg) | ((with_reducible refine gate_dst (N := 6) rfl ?_); (try (refine gate_guard (by rfl) ?_; dsimp only)); refine box_event ?hg (N := 6) ?hd (cs := #[.slice none 0 0, .slice none 0 0, .int .i64 0, .bool false]) (t := 25) ?hr ?_; (case hd => rfl); (case hg => rfl); (case hr => first | (go_simp; done) | (go_simp; rfl)); intro gb102 hg w6 hbox hb; have n0_ := Aside0.mk (Kd.V_below (Kd.V_elderB (by (with_reducible repeat (first | apply Kd.V_alloc | apply Kd.V_drewN | apply Kd.V_drew)); exact HO0_0.out) gb102 (Nat.le_of_eq hg.symm)) hb); have n1_ := Aside0.mk (Kd.V_below (Kd.V_elderB (by (with_reducible repeat (first | apply Kd.V_alloc | apply Kd.V_drewN | apply Kd.V_drew)); exact HO0_1.out) gb102 (Nat.le_of_eq hg.symm)) hb); have n2_ := Aside0.mk (blk_below (g := gb101) (o := .cells #[.slice A0_0 l0_0.length c0_0, .slice A0_1 l0_1.length c0_1, .int .i64 a0_2, .bool a0_3] 25 (0, 0)) (by (with_reducible repeat (first | refine blk_drewN ?_ _ | refine blk_drew ?_ | refine blk_alloc ?_ _)); exact BK101.out) hb); have n3_ := Aside0.mk (below_step (by repeat (first | (with_reducible first | exact HB.out | apply below_alloc | apply pw_below_drewN | apply below_drew1 | refine below_set ?_ GE101.out) | exact HB.out)) hb); have n4_ := Aside0.mk (hbox); have n5_ := Aside0.mk ((by rw [hg]; exact (below_size (by repeat (first | (with_reducible first | exact HB.out | apply below_alloc | apply pw_below_drewN | apply below_drew1 | refine below_set ?_ GE101.out) | exact HB.out))) : w.heap.size ≤ gb102)); have n6_ := Aside0.mk ((by rw [hg]; exact (below_size (by repeat (first | (with_reducible first | exact HB.out | apply below_alloc | apply pw_below_drewN | apply below_drew1 | refine below_set ?_ GE101.out) | exact HB.out))) : w.heap.size ≤ gb102)); have n7_ := Aside0.mk ((by rw [hg]; exact Nat.ne_of_lt (blk_lt (g := gb101) (o := .cells #[.slice A0_0 l0_0.length c0_0, .slice A0_1 l0_1.length c0_1, .int .i64 a0_2, .bool a0_3] 25 (0, 0)) (by (with_reducible repeat (first | refine blk_drewN ?_ _ | refine blk_drew ?_ | refine blk_alloc ?_ _)); exact BK101.out)) : gb101 ≠ gb102)); have n8_ := Aside0.mk ((by rw [hg]; exact Nat.ne_of_gt (blk_lt (g := gb101) (o := .cells #[.slice A0_0 l0_0.length c0_0, .slice A0_1 l0_1.length c0_1, .int .i64 a0_2, .bool a0_3] 25 (0, 0)) (by (with_reducible repeat (first | refine blk_drewN ?_ _ | refine blk_drew ?_ | refine blk_alloc ?_ _)); exact BK101.out)) : gb102 ≠ gb101)); clear HO0_0; clear HO0_1; clear BK101; clear HB; have HO0_0 := n0_; have HO0_1 := n1_; have BK101 := n2_; have HB := n3_; have BK102 := n4_; have GW102 := n5_; have GE102 := n6_; have NB101_102 := n7_; have NB102_101 := n8_; clear n0_ n1_ n2_ n3_ n4_ n5_ n6_ n7_ n8_; clear hb hbox hg))
  (try simp only [Act.put, List.setIfInBounds_toArray, List.set_cons_zero, List.set_cons_succ])
  go_cut [26] (fun v26 wc => ∃ (kq : Nat) (x26_3 : Bool), v26 = .bool x26_3 ∧ Aside0 (sizarref45_Write.j0 kq a1 l2 x26_3 l0_0 l0_1 a0_2 a0_3 = some (r1, r2, r3, r4, r5)) ∧ Aside0 (kq ≤ k) ∧ Aside0 (Kd.V (Kd.slice 5 (Kd.int .u8)) 35 wc w.heap.size (fun k_ => ((P0_0_ k_ ∨ P0_1_ k_) ∨ w.heap.size ≤ k_) ∧ k_ ≠ gb101 ∧ k_ ≠ gb102) (.slice A0_0 l0_0.length c0_0) l0_0) ∧ Aside0 (Kd.V k76 76 wc w.heap.size (fun k_ => ((P0_0_ k_ ∨ P0_1_ k_) ∨ w.heap.size ≤ k_) ∧ k_ ≠ gb101 ∧ k_ ≠ gb102) (.slice A0_1 l0_1.length c0_1) l0_1) ∧ Aside0 (wc.heap[gb101]? = some (.cells #[(.slice A0_0 l0_0.length c0_0), (.slice A0_1 l0_1.length c0_1), .int .i64 a0_2, .bool a0_3] 25 (0, 0))) ∧ Aside0 (wc.heap[gb102]? = some (.cells #[(.slice none 0 0), (.slice none 0 0), .int .i64 0, .bool false] 25 (0, 0))) ∧ Aside0 (Below w.heap.size w wc))
  case first =>
    have H := HC4.out
    clear HC4
    replace H := Option.bind_eq_some_iff.mp H
    obtain ⟨t103, A70, H⟩ := H
    replace H : (if t103 = 0 then (if a0_3 = true then (sizarref45_Write.j0 k a1 l2 true l0_0 l0_1 a0_2 a0_3) else (if a1 < 0 then (sizarref45_Write.j0 k a1 l2 true l0_0 l0_1 a0_2 a0_3) else (sizarref45_Write.j0 k a1 l2 (decide (a1 ≥ (l0_0.length : Int))) l0_0 l0_1 a0_2 a0_3))) else (sizarref45_Write.j0 k a1 l2 true l0_0 l0_1 a0_2 a0_3)) = some (r1, r2, r3, r4, r5) := H
    have A7 := Aside0.mk A70
    clear A70
    by_cases c8 : t103 = 0
    · rw [if_pos c8] at H
      have c8b0 : (t103 == 0) = true := beq_iff_eq.mpr c8
      have c8b1 : (t103 != 0) = false := bne_eq_false_iff_eq.mpr c8
      clear c8
      (first | rw [c8b0] | (simp only [i64_w, i32_w]; rw [c8b0]) | skip)
      by_cases c9 : a0_3 = true
      · subst c9
        have H1 : (sizarref45_Write.j0 k a1 l2 true l0_0 l0_1 a0_2 true) = some (r1, r2, r3, r4, r5) := by rw [if_pos rfl] at H; exact H
        clear H
        have H := H1
        clear H1
        have H' := Aside0.mk H
        clear H
        have hnb10 := NB101_102.out
        have hnc10 := NB102_101.out
        have hcz11_0 : w6.cell? ⟨gb101, 0, none⟩ = some (.slice A0_0 l0_0.length c0_0) := (blk_cell BK101.out 0).trans rfl
        have hcz11_1 : w6.cell? ⟨gb101, 1, none⟩ = some (.slice A0_1 l0_1.length c0_1) := (blk_cell BK101.out 1).trans rfl
        have hcz11_2 : w6.cell? ⟨gb101, 2, none⟩ = some (.int .i64 a0_2) := (blk_cell BK101.out 2).trans rfl
        have hcz11_3 : w6.cell? ⟨gb101, 3, none⟩ = some (.bool true) := (blk_cell BK101.out 3).trans rfl
        have hfz11_0 := blk_frozen BK101.out 0
        have hfz11_1 := blk_frozen BK101.out 1
        have hfz11_2 := blk_frozen BK101.out 2
        have hfz11_3 := blk_frozen BK101.out 3
        go_wp2_with (first | ((with_reducible refine gate_callee (f := 23) rfl ?_); refine goesL_ (some 10) rfl rfl Try.func23 (by kernel_rfl) rfl #[.agg #[.slice A0_0 l0_0.length c0_0, .slice A0_1 l0_1.length c0_1, .int .i64 a0_2, .bool true]] rfl (by (try simp only [List.map_toArray, List.map_cons, List.map_nil]); first | done | rfl | (simp only [List.length_drop, List.length_take]; rfl)) ?_; (with_reducible refine (sizarref45_Check.calls k _ _ l0_0 _ _ l0_1 a0_2 true t103 _ ?side1 ?side2 ?side3 ?side4 A7.out).mono ?_); (case side1 => repeat (first | exact (Kd.V_reads' HO0_0.out).2.2 | (with_reducible refine Kd.C_alloc ?_ _) | (with_reducible refine Kd.C_drewN ?_ _) | (with_reducible refine Kd.C_drew ?_))); (case side2 => exact (Kd.V_reads' HO0_0.out).2.1); (case side3 => repeat (first | exact (Kd.V_reads' HO0_1.out).2.2 | (with_reducible refine Kd.C_alloc ?_ _) | (with_reducible refine Kd.C_drewN ?_ _) | (with_reducible refine Kd.C_drew ?_))); (case side4 => exact (Kd.V_reads' HO0_1.out).2.1); rintro e w12 ⟨rfl, hb⟩; refine ⟨_, rfl, ?_⟩; have n0_ := Aside0.mk (Kd.V_below (by (with_reducible repeat (first | apply Kd.V_alloc | apply Kd.V_drewN | apply Kd.V_drew)); exact HO0_0.out) hb); have n1_ := Aside0.mk (Kd.V_below (by (with_reducible repeat (first | apply Kd.V_alloc | apply Kd.V_drewN | apply Kd.V_drew)); exact HO0_1.out) hb); have n2_ := Aside0.mk (blk_below (g := gb101) (o := .cells #[.slice A0_0 l0_0.length c0_0, .slice A0_1 l0_1.length c0_1, .int .i64 a0_2, .bool true] 25 (0, 0)) (by (with_reducible repeat (first | refine blk_drewN ?_ _ | refine blk_drew ?_ | refine blk_alloc ?_ _)); exact BK101.out) hb); have n3_ := Aside0.mk (blk_below (g := gb102) (o := .cells #[.slice none 0 0, .slice none 0 0, .int .i64 0, .bool false] 25 (0, 0)) (by (with_reducible repeat (first | refine blk_drewN ?_ _ | refine blk_drew ?_ | refine blk_alloc ?_ _)); exact BK102.out) hb); have n4_ := Aside0.mk (below_step (by repeat (first | (with_reducible first | exact HB.out | apply below_alloc | apply pw_below_drewN | apply below_drew1 | refine below_set ?_ GE101.out | refine below_set ?_ GE102.out) | exact HB.out)) hb); clear HO0_0; clear HO0_1; clear BK101; clear BK102; clear HB; have HO0_0 := n0_; have HO0_1 := n1_; have BK101 := n2_; have BK102 := n3_; have HB := n4_; clear n0_ n1_ n2_ n3_ n4_; (try clear hb); (try clear hb2); (try clear hk); (try clear hi); have hcz13_0 : w12.cell? ⟨gb101, 0, none⟩ = some (.slice A0_0 l0_0.length c0_0) := (blk_cell BK101.out 0).trans rfl; have hcz13_1 : w12.cell? ⟨gb101, 1, none⟩ = some (.slice A0_1 l0_1.length c0_1) := (blk_cell BK101.out 1).trans rfl; have hcz13_2 : w12.cell? ⟨gb101, 2, none⟩ = some (.int .i64 a0_2) := (blk_cell BK101.out 2).trans rfl; have hcz13_3 : w12.cell? ⟨gb101, 3, none⟩ = some (.bool true) := (blk_cell BK101.out 3).trans rfl; have hfz13_0 := blk_frozen BK101.out 0; have hfz13_1 := blk_frozen BK101.out 1; have hfz13_2 := blk_frozen BK101.out 2; have hfz13_3 := blk_frozen BK101.out 3))
        go_meet
        case rel => exact ⟨_, (true), (by first | rfl | (simp; done) | (simp [*]; done)), H', ⟨by first | omega | exact Nat.le_refl _⟩, ⟨by (with_reducible repeat (first | apply Kd.V_alloc | apply Kd.V_drewN | apply Kd.V_drew)); exact Kd.V_mono HO0_0.out (fun _ hk => ⟨hk.1.1, ⟨hk.1.2, hk.2⟩⟩)⟩, ⟨by (with_reducible repeat (first | apply Kd.V_alloc | apply Kd.V_drewN | apply Kd.V_drew)); exact Kd.V_mono HO0_1.out (fun _ hk => ⟨hk.1.1, ⟨hk.1.2, hk.2⟩⟩)⟩, ⟨by (with_reducible repeat (first | refine blk_drewN ?_ _ | refine blk_drew ?_ | refine blk_alloc ?_ _)); exact BK101.out⟩, ⟨by (with_reducible repeat (first | refine blk_drewN ?_ _ | refine blk_drew ?_ | refine blk_alloc ?_ _)); exact BK102.out⟩, ⟨by repeat (first | (with_reducible first | exact HB.out | apply below_alloc | apply pw_below_drewN | apply below_drew1 | refine below_set ?_ GE101.out | refine below_set ?_ GE102.out) | exact HB.out)⟩⟩
      · replace c9 := Bool.eq_false_iff.mpr c9
        subst c9
        have H1 : (if a1 < 0 then (sizarref45_Write.j0 k a1 l2 true l0_0 l0_1 a0_2 false) else (sizarref45_Write.j0 k a1 l2 (decide (a1 ≥ (l0_0.length : Int))) l0_0 l0_1 a0_2 false)) = some (r1, r2, r3, r4, r5) := by rw [if_neg (show ¬ (false = true) by decide)] at H; exact H
        clear H
        have H := H1
        clear H1
        by_cases c14 : a1 < 0
        · rw [if_pos c14] at H
          have c14b0 : decide (a1 < 0) = true := decide_eq_true c14
          clear c14
          have H' := Aside0.mk H
          clear H
          have hnb15 := NB101_102.out
          have hnc15 := NB102_101.out
          have hcz16_0 : w6.cell? ⟨gb101, 0, none⟩ = some (.slice A0_0 l0_0.length c0_0) := (blk_cell BK101.out 0).trans rfl
          have hcz16_1 : w6.cell? ⟨gb101, 1, none⟩ = some (.slice A0_1 l0_1.length c0_1) := (blk_cell BK101.out 1).trans rfl
          have hcz16_2 : w6.cell? ⟨gb101, 2, none⟩ = some (.int .i64 a0_2) := (blk_cell BK101.out 2).trans rfl
          have hcz16_3 : w6.cell? ⟨gb101, 3, none⟩ = some (.bool false) := (blk_cell BK101.out 3).trans rfl
          have hfz16_0 := blk_frozen BK101.out 0
          have hfz16_1 := blk_frozen BK101.out 1
          have hfz16_2 := blk_frozen BK101.out 2
          have hfz16_3 := blk_frozen BK101.out 3
          go_wp2_with (first | ((with_reducible refine gate_callee (f := 23) rfl ?_); refine goesL_ (some 10) rfl rfl Try.func23 (by kernel_rfl) rfl #[.agg #[.slice A0_0 l0_0.length c0_0, .slice A0_1 l0_1.length c0_1, .int .i64 a0_2, .bool false]] rfl (by (try simp only [List.map_toArray, List.map_cons, List.map_nil]); first | done | rfl | (simp only [List.length_drop, List.length_take]; rfl)) ?_; (with_reducible refine (sizarref45_Check.calls k _ _ l0_0 _ _ l0_1 a0_2 false t103 _ ?side1 ?side2 ?side3 ?side4 A7.out).mono ?_); (case side1 => repeat (first | exact (Kd.V_reads' HO0_0.out).2.2 | (with_reducible refine Kd.C_alloc ?_ _) | (with_reducible refine Kd.C_drewN ?_ _) | (with_reducible refine Kd.C_drew ?_))); (case side2 => exact (Kd.V_reads' HO0_0.out).2.1); (case side3 => repeat (first | exact (Kd.V_reads' HO0_1.out).2.2 | (with_reducible refine Kd.C_alloc ?_ _) | (with_reducible refine Kd.C_drewN ?_ _) | (with_reducible refine Kd.C_drew ?_))); (case side4 => exact (Kd.V_reads' HO0_1.out).2.1); rintro e w17 ⟨rfl, hb⟩; refine ⟨_, rfl, ?_⟩; have n0_ := Aside0.mk (Kd.V_below (by (with_reducible repeat (first | apply Kd.V_alloc | apply Kd.V_drewN | apply Kd.V_drew)); exact HO0_0.out) hb); have n1_ := Aside0.mk (Kd.V_below (by (with_reducible repeat (first | apply Kd.V_alloc | apply Kd.V_drewN | apply Kd.V_drew)); exact HO0_1.out) hb); have n2_ := Aside0.mk (blk_below (g := gb101) (o := .cells #[.slice A0_0 l0_0.length c0_0, .slice A0_1 l0_1.length c0_1, .int .i64 a0_2, .bool false] 25 (0, 0)) (by (with_reducible repeat (first | refine blk_drewN ?_ _ | refine blk_drew ?_ | refine blk_alloc ?_ _)); exact BK101.out) hb); have n3_ := Aside0.mk (blk_below (g := gb102) (o := .cells #[.slice none 0 0, .slice none 0 0, .int .i64 0, .bool false] 25 (0, 0)) (by (with_reducible repeat (first | refine blk_drewN ?_ _ | refine blk_drew ?_ | refine blk_alloc ?_ _)); exact BK102.out) hb); have n4_ := Aside0.mk (below_step (by repeat (first | (with_reducible first | exact HB.out | apply below_alloc | apply pw_below_drewN | apply below_drew1 | refine below_set ?_ GE101.out | refine below_set ?_ GE102.out) | exact HB.out)) hb); clear HO0_0; clear HO0_1; clear BK101; clear BK102; clear HB; have HO0_0 := n0_; have HO0_1 := n1_; have BK101 := n2_; have BK102 := n3_; have HB := n4_; clear n0_ n1_ n2_ n3_ n4_; (try clear hb); (try clear hb2); (try clear hk); (try clear hi); have hcz18_0 : w17.cell? ⟨gb101, 0, none⟩ = some (.slice A0_0 l0_0.length c0_0) := (blk_cell BK101.out 0).trans rfl; have hcz18_1 : w17.cell? ⟨gb101, 1, none⟩ = some (.slice A0_1 l0_1.length c0_1) := (blk_cell BK101.out 1).trans rfl; have hcz18_2 : w17.cell? ⟨gb101, 2, none⟩ = some (.int .i64 a0_2) := (blk_cell BK101.out 2).trans rfl; have hcz18_3 : w17.cell? ⟨gb101, 3, none⟩ = some (.bool false) := (blk_cell BK101.out 3).trans rfl; have hfz18_0 := blk_frozen BK101.out 0; have hfz18_1 := blk_frozen BK101.out 1; have hfz18_2 := blk_frozen BK101.out 2; have hfz18_3 := blk_frozen BK101.out 3))
          go_meet
          case rel => exact ⟨_, (true), (by first | rfl | (simp; done) | (simp [*]; done)), H', ⟨by first | omega | exact Nat.le_refl _⟩, ⟨by (with_reducible repeat (first | apply Kd.V_alloc | apply Kd.V_drewN | apply Kd.V_drew)); exact Kd.V_mono HO0_0.out (fun _ hk => ⟨hk.1.1, ⟨hk.1.2, hk.2⟩⟩)⟩, ⟨by (with_reducible repeat (first | apply Kd.V_alloc | apply Kd.V_drewN | apply Kd.V_drew)); exact Kd.V_mono HO0_1.out (fun _ hk => ⟨hk.1.1, ⟨hk.1.2, hk.2⟩⟩)⟩, ⟨by (with_reducible repeat (first | refine blk_drewN ?_ _ | refine blk_drew ?_ | refine blk_alloc ?_ _)); exact BK101.out⟩, ⟨by (with_reducible repeat (first | refine blk_drewN ?_ _ | refine blk_drew ?_ | refine blk_alloc ?_ _)); exact BK102.out⟩, ⟨by repeat (first | (with_reducible first | exact HB.out | apply below_alloc | apply pw_below_drewN | apply below_drew1 | refine below_set ?_ GE101.out | refine below_set ?_ GE102.out) | exact HB.out)⟩⟩
        · rw [if_neg c14] at H
          have c14b0 : decide (a1 < 0) = false := decide_eq_false c14
          clear c14
          have H' := Aside0.mk H
          clear H
          have hnb19 := NB101_102.out
          have hnc19 := NB102_101.out
          have hcz20_0 : w6.cell? ⟨gb101, 0, none⟩ = some (.slice A0_0 l0_0.length c0_0) := (blk_cell BK101.out 0).trans rfl
          have hcz20_1 : w6.cell? ⟨gb101, 1, none⟩ = some (.slice A0_1 l0_1.length c0_1) := (blk_cell BK101.out 1).trans rfl
          have hcz20_2 : w6.cell? ⟨gb101, 2, none⟩ = some (.int .i64 a0_2) := (blk_cell BK101.out 2).trans rfl
          have hcz20_3 : w6.cell? ⟨gb101, 3, none⟩ = some (.bool false) := (blk_cell BK101.out 3).trans rfl
          have hfz20_0 := blk_frozen BK101.out 0
          have hfz20_1 := blk_frozen BK101.out 1
          have hfz20_2 := blk_frozen BK101.out 2
          have hfz20_3 := blk_frozen BK101.out 3
          go_wp2_with (first | ((with_reducible refine gate_callee (f := 23) rfl ?_); refine goesL_ (some 10) rfl rfl Try.func23 (by kernel_rfl) rfl #[.agg #[.slice A0_0 l0_0.length c0_0, .slice A0_1 l0_1.length c0_1, .int .i64 a0_2, .bool false]] rfl (by (try simp only [List.map_toArray, List.map_cons, List.map_nil]); first | done | rfl | (simp only [List.length_drop, List.length_take]; rfl)) ?_; (with_reducible refine (sizarref45_Check.calls k _ _ l0_0 _ _ l0_1 a0_2 false t103 _ ?side1 ?side2 ?side3 ?side4 A7.out).mono ?_); (case side1 => repeat (first | exact (Kd.V_reads' HO0_0.out).2.2 | (with_reducible refine Kd.C_alloc ?_ _) | (with_reducible refine Kd.C_drewN ?_ _) | (with_reducible refine Kd.C_drew ?_))); (case side2 => exact (Kd.V_reads' HO0_0.out).2.1); (case side3 => repeat (first | exact (Kd.V_reads' HO0_1.out).2.2 | (with_reducible refine Kd.C_alloc ?_ _) | (with_reducible refine Kd.C_drewN ?_ _) | (with_reducible refine Kd.C_drew ?_))); (case side4 => exact (Kd.V_reads' HO0_1.out).2.1); rintro e w21 ⟨rfl, hb⟩; refine ⟨_, rfl, ?_⟩; have n0_ := Aside0.mk (Kd.V_below (by (with_reducible repeat (first | apply Kd.V_alloc | apply Kd.V_drewN | apply Kd.V_drew)); exact HO0_0.out) hb); have n1_ := Aside0.mk (Kd.V_below (by (with_reducible repeat (first | apply Kd.V_alloc | apply Kd.V_drewN | apply Kd.V_drew)); exact HO0_1.out) hb); have n2_ := Aside0.mk (blk_below (g := gb101) (o := .cells #[.slice A0_0 l0_0.length c0_0, .slice A0_1 l0_1.length c0_1, .int .i64 a0_2, .bool false] 25 (0, 0)) (by (with_reducible repeat (first | refine blk_drewN ?_ _ | refine blk_drew ?_ | refine blk_alloc ?_ _)); exact BK101.out) hb); have n3_ := Aside0.mk (blk_below (g := gb102) (o := .cells #[.slice none 0 0, .slice none 0 0, .int .i64 0, .bool false] 25 (0, 0)) (by (with_reducible repeat (first | refine blk_drewN ?_ _ | refine blk_drew ?_ | refine blk_alloc ?_ _)); exact BK102.out) hb); have n4_ := Aside0.mk (below_step (by repeat (first | (with_reducible first | exact HB.out | apply below_alloc | apply pw_below_drewN | apply below_drew1 | refine below_set ?_ GE101.out | refine below_set ?_ GE102.out) | exact HB.out)) hb); clear HO0_0; clear HO0_1; clear BK101; clear BK102; clear HB; have HO0_0 := n0_; have HO0_1 := n1_; have BK101 := n2_; have BK102 := n3_; have HB := n4_; clear n0_ n1_ n2_ n3_ n4_; (try clear hb); (try clear hb2); (try clear hk); (try clear hi); have hcz22_0 : w21.cell? ⟨gb101, 0, none⟩ = some (.slice A0_0 l0_0.length c0_0) := (blk_cell BK101.out 0).trans rfl; have hcz22_1 : w21.cell? ⟨gb101, 1, none⟩ = some (.slice A0_1 l0_1.length c0_1) := (blk_cell BK101.out 1).trans rfl; have hcz22_2 : w21.cell? ⟨gb101, 2, none⟩ = some (.int .i64 a0_2) := (blk_cell BK101.out 2).trans rfl; have hcz22_3 : w21.cell? ⟨gb101, 3, none⟩ = some (.bool false) := (blk_cell BK101.out 3).trans rfl; have hfz22_0 := blk_frozen BK101.out 0; have hfz22_1 := blk_frozen BK101.out 1; have hfz22_2 := blk_frozen BK101.out 2; have hfz22_3 := blk_frozen BK101.out 3))
          go_meet
          case rel => exact ⟨_, (decide (a1 ≥ (l0_0.length : Int))), (by first | rfl | (simp; done) | (simp [*]; done)), H', ⟨by first | omega | exact Nat.le_refl _⟩, ⟨by (with_reducible repeat (first | apply Kd.V_alloc | apply Kd.V_drewN | apply Kd.V_drew)); exact Kd.V_mono HO0_0.out (fun _ hk => ⟨hk.1.1, ⟨hk.1.2, hk.2⟩⟩)⟩, ⟨by (with_reducible repeat (first | apply Kd.V_alloc | apply Kd.V_drewN | apply Kd.V_drew)); exact Kd.V_mono HO0_1.out (fun _ hk => ⟨hk.1.1, ⟨hk.1.2, hk.2⟩⟩)⟩, ⟨by (with_reducible repeat (first | refine blk_drewN ?_ _ | refine blk_drew ?_ | refine blk_alloc ?_ _)); exact BK101.out⟩, ⟨by (with_reducible repeat (first | refine blk_drewN ?_ _ | refine blk_drew ?_ | refine blk_alloc ?_ _)); exact BK102.out⟩, ⟨by repeat (first | (with_reducible first | exact HB.out | apply below_alloc | apply pw_below_drewN | apply below_drew1 | refine below_set ?_ GE101.out | refine below_set ?_ GE102.out) | exact HB.out)⟩⟩
    · rw [if_neg c8] at H
      have c8b0 : (t103 == 0) = false := beq_eq_false_iff_ne.mpr c8
      have c8b1 : (t103 != 0) = true := bne_iff_ne.mpr c8
      (first | rw [c8b0] | (simp only [i64_w, i32_w]; rw [c8b0]) | skip)
      have H' := Aside0.mk H
      clear H
      have hnb23 := NB101_102.out
      have hnc23 := NB102_101.out
      have hcz24_0 : w6.cell? ⟨gb101, 0, none⟩ = some (.slice A0_0 l0_0.length c0_0) := (blk_cell BK101.out 0).trans rfl
      have hcz24_1 : w6.cell? ⟨gb101, 1, none⟩ = some (.slice A0_1 l0_1.length c0_1) := (blk_cell BK101.out 1).trans rfl
      have hcz24_2 : w6.cell? ⟨gb101, 2, none⟩ = some (.int .i64 a0_2) := (blk_cell BK101.out 2).trans rfl
      have hcz24_3 : w6.cell? ⟨gb101, 3, none⟩ = some (.bool a0_3) := (blk_cell BK101.out 3).trans rfl
      have hfz24_0 := blk_frozen BK101.out 0
      have hfz24_1 := blk_frozen BK101.out 1
      have hfz24_2 := blk_frozen BK101.out 2
      have hfz24_3 := blk_frozen BK101.out 3
      go_wp2_with (first | ((with_reducible refine gate_callee (f := 23) rfl ?_); refine goesL_ (some 10) rfl rfl Try.func23 (by kernel_rfl) rfl #[.agg #[.slice A0_0 l0_0.length c0_0, .slice A0_1 l0_1.length c0_1, .int .i64 a0_2, .bool a0_3]] rfl (by (try simp only [List.map_toArray, List.map_cons, List.map_nil]); first | done | rfl | (simp only [List.length_drop, List.length_take]; rfl)) ?_; (with_reducible refine (sizarref45_Check.calls k _ _ l0_0 _ _ l0_1 a0_2 a0_3 t103 _ ?side1 ?side2 ?side3 ?side4 A7.out).mono ?_); (case side1 => repeat (first | exact (Kd.V_reads' HO0_0.out).2.2 | (with_reducible refine Kd.C_alloc ?_ _) | (with_reducible refine Kd.C_drewN ?_ _) | (with_reducible refine Kd.C_drew ?_))); (case side2 => exact (Kd.V_reads' HO0_0.out).2.1); (case side3 => repeat (first | exact (Kd.V_reads' HO0_1.out).2.2 | (with_reducible refine Kd.C_alloc ?_ _) | (with_reducible refine Kd.C_drewN ?_ _) | (with_reducible refine Kd.C_drew ?_))); (case side4 => exact (Kd.V_reads' HO0_1.out).2.1); rintro e w25 ⟨rfl, hb⟩; refine ⟨_, rfl, ?_⟩; have n0_ := Aside0.mk (Kd.V_below (by (with_reducible repeat (first | apply Kd.V_alloc | apply Kd.V_drewN | apply Kd.V_drew)); exact HO0_0.out) hb); have n1_ := Aside0.mk (Kd.V_below (by (with_reducible repeat (first | apply Kd.V_alloc | apply Kd.V_drewN | apply Kd.V_drew)); exact HO0_1.out) hb); have n2_ := Aside0.mk (blk_below (g := gb101) (o := .cells #[.slice A0_0 l0_0.length c0_0, .slice A0_1 l0_1.length c0_1, .int .i64 a0_2, .bool a0_3] 25 (0, 0)) (by (with_reducible repeat (first | refine blk_drewN ?_ _ | refine blk_drew ?_ | refine blk_alloc ?_ _)); exact BK101.out) hb); have n3_ := Aside0.mk (blk_below (g := gb102) (o := .cells #[.slice none 0 0, .slice none 0 0, .int .i64 0, .bool false] 25 (0, 0)) (by (with_reducible repeat (first | refine blk_drewN ?_ _ | refine blk_drew ?_ | refine blk_alloc ?_ _)); exact BK102.out) hb); have n4_ := Aside0.mk (below_step (by repeat (first | (with_reducible first | exact HB.out | apply below_alloc | apply pw_below_drewN | apply below_drew1 | refine below_set ?_ GE101.out | refine below_set ?_ GE102.out) | exact HB.out)) hb); clear HO0_0; clear HO0_1; clear BK101; clear BK102; clear HB; have HO0_0 := n0_; have HO0_1 := n1_; have BK101 := n2_; have BK102 := n3_; have HB := n4_; clear n0_ n1_ n2_ n3_ n4_; (try clear hb); (try clear hb2); (try clear hk); (try clear hi)))
      go_meet
      case rel => exact ⟨_, (true), (by first | rfl | (simp; done) | (simp [*]; done)), H', ⟨by first | omega | exact Nat.le_refl _⟩, ⟨by (with_reducible repeat (first | apply Kd.V_alloc | apply Kd.V_drewN | apply Kd.V_drew)); exact Kd.V_mono HO0_0.out (fun _ hk => ⟨hk.1.1, ⟨hk.1.2, hk.2⟩⟩)⟩, ⟨by (with_reducible repeat (first | apply Kd.V_alloc | apply Kd.V_drewN | apply Kd.V_drew)); exact Kd.V_mono HO0_1.out (fun _ hk => ⟨hk.1.1, ⟨hk.1.2, hk.2⟩⟩)⟩, ⟨by (with_reducible repeat (first | refine blk_drewN ?_ _ | refine blk_drew ?_ | refine blk_alloc ?_ _)); exact BK101.out⟩, ⟨by (with_reducible repeat (first | refine blk_drewN ?_ _ | refine blk_drew ?_ | refine blk_alloc ?_ _)); exact BK102.out⟩, ⟨by repeat (first | (with_reducible first | exact HB.out | apply below_alloc | apply pw_below_drewN | apply below_drew1 | refine below_set ?_ GE101.out | refine below_set ?_ GE102.out) | exact HB.out)⟩⟩
  case rest =>
    clear HC4
    try clear c1
    try clear c2
    try clear p2
    try clear c8
    try clear c8b0
    try clear c8b1
    try clear c9
    try clear c10
    try clear c14
    try clear c14b0
    try clear c15
    try clear c19
    try clear c23
    try clear hcz11_0
    try clear hcz11_1
    try clear hcz11_2
    try clear hcz11_3
    try clear hcz13_0
    try clear hcz13_1
    try clear hcz13_2
    try clear hcz13_3
    try clear hcz16_0
    try clear hcz16_1
    try clear hcz16_2
    try clear hcz16_3
    try clear hcz18_0
    try clear hcz18_1
    try clear hcz18_2
    try clear hcz18_3
    try clear hcz20_0
    try clear hcz20_1
    try clear hcz20_2
    try clear hcz20_3
    try clear hcz22_0
    try clear hcz22_1
    try clear hcz22_2
    try clear hcz22_3
    try clear hcz24_0
    try clear hcz24_1
    try clear hcz24_2
    try clear hcz24_3
    try clear hfz11_0
    try clear hfz11_1
    try clear hfz11_2
    try clear hfz11_3
    try clear hfz13_0
    try clear hfz13_1
    try clear hfz13_2
    try clear hfz13_3
    try clear hfz16_0
    try clear hfz16_1
    try clear hfz16_2
    try clear hfz16_3
    try clear hfz18_0
    try clear hfz18_1
    try clear hfz18_2
    try clear hfz18_3
    try clear hfz20_0
    try clear hfz20_1
    try clear hfz20_2
    try clear hfz20_3
    try clear hfz22_0
    try clear hfz22_1
    try clear hfz22_2
    try clear hfz22_3
    try clear hfz24_0
    try clear hfz24_1
    try clear hfz24_2
    try clear hfz24_3
    obtain ⟨kq, x26_3, rfl, HA, HJ3, HO_102000, HO_102001, BK101, BK102, HB⟩ := hcut
    cases kq with
    | zero => exact absurd HA.out (by unfold sizarref45_Write.j0; exact fun h => by cases h)
    | succ kj3 =>
      have H := HA.out
      clear HA
      simp only [sizarref45_Write.j0] at H
      by_cases c26 : x26_3 = true
      · subst c26
        have H1 : (some (([] : List (List Int)), ([] : List (S76)), 0, false, 450)) = some (r1, r2, r3, r4, r5) := by rw [if_pos rfl] at H; exact H
        clear H
        have H := H1
        clear H1
        simp only [Option.some.injEq, Prod.mk.injEq] at H
        obtain ⟨rfl, rfl, rfl, rfl, rfl⟩ := H
        have hnb27 := NB102_101.out
        have hnc27 := NB101_102.out
        have hcz28_0 : wc.cell? ⟨gb102, 0, none⟩ = some (.slice none 0 0) := (blk_cell BK102.out 0).trans rfl
        have hcz28_1 : wc.cell? ⟨gb102, 1, none⟩ = some (.slice none 0 0) := (blk_cell BK102.out 1).trans rfl
        have hcz28_2 : wc.cell? ⟨gb102, 2, none⟩ = some (.int .i64 0) := (blk_cell BK102.out 2).trans rfl
        have hcz28_3 : wc.cell? ⟨gb102, 3, none⟩ = some (.bool false) := (blk_cell BK102.out 3).trans rfl
        have hfz28_0 := blk_frozen BK102.out 0
        have hfz28_1 := blk_frozen BK102.out 1
        have hfz28_2 := blk_frozen BK102.out 2
        have hfz28_3 := blk_frozen BK102.out 3
        go_wp2
        refine bodyPost_ret (results_ct rfl _ _ gb102 25 #[.slice none 0 0, .slice none 0 0, .int .i64 0, .bool false] (0, 0) _ rfl (by (with_reducible repeat (first | refine blk_drewN ?_ _ | refine blk_drew ?_ | refine blk_alloc ?_ _)); refine blk_put (cs := #[.slice none 0 0, .slice none 0 0, .int .i64 0, .bool false]) ?_ 3 _ rfl; (with_reducible repeat (first | refine blk_drewN ?_ _ | refine blk_drew ?_ | refine blk_alloc ?_ _)); refine blk_put (cs := #[.slice none 0 0, .slice none 0 0, .int .i64 0, .bool false]) ?_ 2 _ rfl; (with_reducible repeat (first | refine blk_drewN ?_ _ | refine blk_drew ?_ | refine blk_alloc ?_ _)); refine blk_put (cs := #[.slice none 0 0, .slice none 0 0, .int .i64 0, .bool false]) ?_ 1 _ rfl; (with_reducible repeat (first | refine blk_drewN ?_ _ | refine blk_drew ?_ | refine blk_alloc ?_ _)); refine blk_put (cs := #[.slice none 0 0, .slice none 0 0, .int .i64 0, .bool false]) ?_ 0 _ rfl; (with_reducible repeat (first | refine blk_drewN ?_ _ | refine blk_drew ?_ | refine blk_alloc ?_ _)); exact BK102.out) Try.underlying25 rfl (by kernel_rfl)) rfl ?_
        exact ⟨_, _, by first | rfl | (simp [errW_none, errW_some] <;> rfl) | (simp [*, errW_none, errW_some] <;> rfl), Kd.V_nil _ _ _ _ _, by first | exact Kd.S_nil _ _ _ _ _ | exact Kd.N_nil _ _ _ _ _ | exact Kd.V_nil _ _ _ _ _ | exact Kd.Q_nil _ _ _ _ _ | exact Kd.R_nil _ _ _ _ _, by repeat (first | (with_reducible first | exact HB.out | apply below_alloc | apply pw_below_drewN | apply below_drew1 | refine below_set ?_ GE101.out | refine below_set ?_ GE102.out) | exact HB.out)⟩
      · replace c26 := Bool.eq_false_iff.mpr c26
        subst c26
        have H1 : (if (l2.length : Int) > 128 then (some (([] : List (List Int)), ([] : List (S76)), 0, false, 1)) else (if (l0_1.length : Int) = 4096 then (some (([] : List (List Int)), ([] : List (S76)), 0, false, 2)) else ((some (([] : List Int) : List Int)).bind fun y104 => (if y104.length + l2.length < 140737488355328 then (sizarref45_Write.l0 kj3 a1 (y104 ++ l2) l0_0 l0_1 a0_2 a0_3) else (none))))) = some (r1, r2, r3, r4, r5) := by rw [if_neg (show ¬ (false = true) by decide)] at H; exact H
        clear H
        have H := H1
        clear H1
        by_cases c29 : (l2.length : Int) > 128
        · rw [if_pos c29] at H
          have c29b0 : decide (128 < (l2.length : Int)) = true := decide_eq_true c29
          have c29b1 : decide (128 < l2.length) = true := decide_eq_true (by omega)
          clear c29
          simp only [Option.some.injEq, Prod.mk.injEq] at H
          obtain ⟨rfl, rfl, rfl, rfl, rfl⟩ := H
          have hnb30 := NB102_101.out
          have hnc30 := NB101_102.out
          have hcz31_0 : wc.cell? ⟨gb102, 0, none⟩ = some (.slice none 0 0) := (blk_cell BK102.out 0).trans rfl
          have hcz31_1 : wc.cell? ⟨gb102, 1, none⟩ = some (.slice none 0 0) := (blk_cell BK102.out 1).trans rfl
          have hcz31_2 : wc.cell? ⟨gb102, 2, none⟩ = some (.int .i64 0) := (blk_cell BK102.out 2).trans rfl
          have hcz31_3 : wc.cell? ⟨gb102, 3, none⟩ = some (.bool false) := (blk_cell BK102.out 3).trans rfl
          have hfz31_0 := blk_frozen BK102.out 0
          have hfz31_1 := blk_frozen BK102.out 1
          have hfz31_2 := blk_frozen BK102.out 2
          have hfz31_3 := blk_frozen BK102.out 3
          go_wp2
          refine bodyPost_ret (results_ct rfl _ _ gb102 25 #[.slice none 0 0, .slice none 0 0, .int .i64 0, .bool false] (0, 0) _ rfl (by (with_reducible repeat (first | refine blk_drewN ?_ _ | refine blk_drew ?_ | refine blk_alloc ?_ _)); refine blk_put (cs := #[.slice none 0 0, .slice none 0 0, .int .i64 0, .bool false]) ?_ 3 _ rfl; (with_reducible repeat (first | refine blk_drewN ?_ _ | refine blk_drew ?_ | refine blk_alloc ?_ _)); refine blk_put (cs := #[.slice none 0 0, .slice none 0 0, .int .i64 0, .bool false]) ?_ 2 _ rfl; (with_reducible repeat (first | refine blk_drewN ?_ _ | refine blk_drew ?_ | refine blk_alloc ?_ _)); refine blk_put (cs := #[.slice none 0 0, .slice none 0 0, .int .i64 0, .bool false]) ?_ 1 _ rfl; (with_reducible repeat (first | refine blk_drewN ?_ _ | refine blk_drew ?_ | refine blk_alloc ?_ _)); refine blk_put (cs := #[.slice none 0 0, .slice none 0 0, .int .i64 0, .bool false]) ?_ 0 _ rfl; (with_reducible repeat (first | refine blk_drewN ?_ _ | refine blk_drew ?_ | refine blk_alloc ?_ _)); exact BK102.out) Try.underlying25 rfl (by kernel_rfl)) rfl ?_
          exact ⟨_, _, by first | rfl | (simp [errW_none, errW_some] <;> rfl) | (simp [*, errW_none, errW_some] <;> rfl), Kd.V_nil _ _ _ _ _, by first | exact Kd.S_nil _ _ _ _ _ | exact Kd.N_nil _ _ _ _ _ | exact Kd.V_nil _ _ _ _ _ | exact Kd.Q_nil _ _ _ _ _ | exact Kd.R_nil _ _ _ _ _, by repeat (first | (with_reducible first | exact HB.out | apply below_alloc | apply pw_below_drewN | apply below_drew1 | refine below_set ?_ GE101.out | refine below_set ?_ GE102.out) | exact HB.out)⟩
        · rw [if_neg c29] at H
          have c29b0 : decide (128 < (l2.length : Int)) = false := decide_eq_false c29
          have c29b1 : decide (128 < l2.length) = false := decide_eq_false (by omega)
          clear c29
          by_cases c32 : (l0_1.length : Int) = 4096
          · rw [if_pos c32] at H
            have c32b0 : ((l0_1.length : Int) == 4096) = true := beq_iff_eq.mpr c32
            have c32b1 : ((l0_1.length : Int) != 4096) = false := bne_eq_false_iff_eq.mpr c32
            clear c32
            simp only [Option.some.injEq, Prod.mk.injEq] at H
            obtain ⟨rfl, rfl, rfl, rfl, rfl⟩ := H
            have hnb33 := NB101_102.out
            have hnc33 := NB102_101.out
            have hcz34_0 : wc.cell? ⟨gb101, 0, none⟩ = some (.slice A0_0 l0_0.length c0_0) := (blk_cell BK101.out 0).trans rfl
            have hcz34_1 : wc.cell? ⟨gb101, 1, none⟩ = some (.slice A0_1 l0_1.length c0_1) := (blk_cell BK101.out 1).trans rfl
            have hcz34_2 : wc.cell? ⟨gb101, 2, none⟩ = some (.int .i64 a0_2) := (blk_cell BK101.out 2).trans rfl
            have hcz34_3 : wc.cell? ⟨gb101, 3, none⟩ = some (.bool a0_3) := (blk_cell BK101.out 3).trans rfl
            have hfz34_0 := blk_frozen BK101.out 0
            have hfz34_1 := blk_frozen BK101.out 1
            have hfz34_2 := blk_frozen BK101.out 2
            have hfz34_3 := blk_frozen BK101.out 3
            have hcz35_0 : wc.cell? ⟨gb102, 0, none⟩ = some (.slice none 0 0) := (blk_cell BK102.out 0).trans rfl
            have hcz35_1 : wc.cell? ⟨gb102, 1, none⟩ = some (.slice none 0 0) := (blk_cell BK102.out 1).trans rfl
            have hcz35_2 : wc.cell? ⟨gb102, 2, none⟩ = some (.int .i64 0) := (blk_cell BK102.out 2).trans rfl
            have hcz35_3 : wc.cell? ⟨gb102, 3, none⟩ = some (.bool false) := (blk_cell BK102.out 3).trans rfl
            have hfz35_0 := blk_frozen BK102.out 0
            have hfz35_1 := blk_frozen BK102.out 1
            have hfz35_2 := blk_frozen BK102.out 2
            have hfz35_3 := blk_frozen BK102.out 3
            go_wp2
            refine bodyPost_ret (results_ct rfl _ _ gb102 25 #[.slice none 0 0, .slice none 0 0, .int .i64 0, .bool false] (0, 0) _ rfl (by (with_reducible repeat (first | refine blk_drewN ?_ _ | refine blk_drew ?_ | refine blk_alloc ?_ _)); refine blk_put (cs := #[.slice none 0 0, .slice none 0 0, .int .i64 0, .bool false]) ?_ 3 _ rfl; (with_reducible repeat (first | refine blk_drewN ?_ _ | refine blk_drew ?_ | refine blk_alloc ?_ _)); refine blk_put (cs := #[.slice none 0 0, .slice none 0 0, .int .i64 0, .bool false]) ?_ 2 _ rfl; (with_reducible repeat (first | refine blk_drewN ?_ _ | refine blk_drew ?_ | refine blk_alloc ?_ _)); refine blk_put (cs := #[.slice none 0 0, .slice none 0 0, .int .i64 0, .bool false]) ?_ 1 _ rfl; (with_reducible repeat (first | refine blk_drewN ?_ _ | refine blk_drew ?_ | refine blk_alloc ?_ _)); refine blk_put (cs := #[.slice none 0 0, .slice none 0 0, .int .i64 0, .bool false]) ?_ 0 _ rfl; (with_reducible repeat (first | refine blk_drewN ?_ _ | refine blk_drew ?_ | refine blk_alloc ?_ _)); exact BK102.out) Try.underlying25 rfl (by kernel_rfl)) rfl ?_
            exact ⟨_, _, by first | rfl | (simp [errW_none, errW_some] <;> rfl) | (simp [*, errW_none, errW_some] <;> rfl), Kd.V_nil _ _ _ _ _, by first | exact Kd.S_nil _ _ _ _ _ | exact Kd.N_nil _ _ _ _ _ | exact Kd.V_nil _ _ _ _ _ | exact Kd.Q_nil _ _ _ _ _ | exact Kd.R_nil _ _ _ _ _, by repeat (first | (with_reducible first | exact HB.out | apply below_alloc | apply pw_below_drewN | apply below_drew1 | refine below_set ?_ GE101.out | refine below_set ?_ GE102.out) | exact HB.out)⟩
          · rw [if_neg c32] at H
            have c32b0 : ((l0_1.length : Int) == 4096) = false := beq_eq_false_iff_ne.mpr c32
            have c32b1 : ((l0_1.length : Int) != 4096) = true := bne_iff_ne.mpr c32
            obtain ⟨y104, hy104⟩ : ∃ y_ : List Int, y_ = (([] : List Int)) := ⟨_, rfl⟩
            replace H : (if y104.length + l2.length < 140737488355328 then (sizarref45_Write.l0 kj3 a1 (y104 ++ l2) l0_0 l0_1 a0_2 a0_3) else (none)) = some (r1, r2, r3, r4, r5) := by first | (rw [hy104]; with_reducible exact H) | (have H2_ := (Option.bind_some _ _).symm.trans H; rw [hy104]; with_reducible exact H2_) | (have H2_ := (Option.bind_some _ _).symm.trans H; with_reducible exact H2_) | with_reducible exact H | (rw [hy104]; exact H) | exact H
            have Ny104 := Aside0.mk hy104
            clear hy104
            by_cases c36 : y104.length + l2.length < 140737488355328
            · rw [if_pos c36] at H
              have LMc36 := Aside0.mk c36
              clear c36
              obtain ⟨y107, hy107⟩ : ∃ y_ : List Int, y_ = (y104 ++ l2) := ⟨_, rfl⟩
              replace H : (sizarref45_Write.l0 kj3 a1 y107 l0_0 l0_1 a0_2 a0_3) = some (r1, r2, r3, r4, r5) := by first | (rw [hy107]; with_reducible exact H) | (have H2_ := (Option.bind_some _ _).symm.trans H; rw [hy107]; with_reducible exact H2_) | (have H2_ := (Option.bind_some _ _).symm.trans H; with_reducible exact H2_) | with_reducible exact H | (rw [hy107]; exact H) | exact H
              have Ny107 := Aside0.mk hy107
              clear hy107
              have H' := Aside0.mk H
              clear H
              have hnb37 := NB101_102.out
              have hnc37 := NB102_101.out
              have hcz38_0 : wc.cell? ⟨gb101, 0, none⟩ = some (.slice A0_0 l0_0.length c0_0) := (blk_cell BK101.out 0).trans rfl
              have hcz38_1 : wc.cell? ⟨gb101, 1, none⟩ = some (.slice A0_1 l0_1.length c0_1) := (blk_cell BK101.out 1).trans rfl
              have hcz38_2 : wc.cell? ⟨gb101, 2, none⟩ = some (.int .i64 a0_2) := (blk_cell BK101.out 2).trans rfl
              have hcz38_3 : wc.cell? ⟨gb101, 3, none⟩ = some (.bool a0_3) := (blk_cell BK101.out 3).trans rfl
              have hfz38_0 := blk_frozen BK101.out 0
              have hfz38_1 := blk_frozen BK101.out 1
              have hfz38_2 := blk_frozen BK101.out 2
              have hfz38_3 := blk_frozen BK101.out 3
              go_wp2_with (first | ((with_reducible refine gate_dst (N := 37) rfl ?_); (try (refine gate_guard (by rfl) ?_; dsimp only)); refine Kd.R_lit (Kd.int .u8) _ 5 ?hg (N := 37) ?hd (xs := ([] : List Int)) (inner := []) (ok := fun _ => True) (okp := fun _ => True) ?hr ?hp (fun _ hk => hk) trivial (Below.refl _ _) (Nat.le_refl _) (by simp) ?_; (case hd => rfl); (case hg => rfl); (case hr => first | (go_simp; done) | (go_simp; rfl)); (case hp => exact (Reps.none _ _)); intro v105 w39 ho40 hb hg_ hnew_; clear hg_ hnew_; (first | rw [← Ny104.out] at ho40 | (simp only [Int.reduceToNat] at ho40; rw [← Ny104.out] at ho40)); have n0_ := Aside0.mk (Kd.V_elder' (by (with_reducible repeat (first | apply Kd.V_alloc | apply Kd.V_drewN | apply Kd.V_drew)); exact HO_102000.out) (Kd.R_base ho40) hb); have n1_ := Aside0.mk (Kd.V_elder' (by (with_reducible repeat (first | apply Kd.V_alloc | apply Kd.V_drewN | apply Kd.V_drew)); exact HO_102001.out) (Kd.R_base ho40) hb); have n2_ := Aside0.mk (Kd.R_lower (Kd.R_newM (M := fun k_ => (w.heap.size ≤ k_)) ho40 (below_size (by repeat (first | (with_reducible first | exact HB.out | apply below_alloc | apply pw_below_drewN | apply below_drew1 | refine below_set ?_ GE101.out | refine below_set ?_ GE102.out) | exact HB.out))) (fun k_ h_ => h_)) (below_size (by repeat (first | (with_reducible first | exact HB.out | apply below_alloc | apply pw_below_drewN | apply below_drew1 | refine below_set ?_ GE101.out | refine below_set ?_ GE102.out) | exact HB.out)))); have n3_ := Aside0.mk (blk_below (g := gb101) (o := .cells #[.slice A0_0 l0_0.length c0_0, .slice A0_1 l0_1.length c0_1, .int .i64 a0_2, .bool a0_3] 25 (0, 0)) (by (with_reducible repeat (first | refine blk_drewN ?_ _ | refine blk_drew ?_ | refine blk_alloc ?_ _)); exact BK101.out) hb); have n4_ := Aside0.mk (blk_below (g := gb102) (o := .cells #[.slice none 0 0, .slice none 0 0, .int .i64 0, .bool false] 25 (0, 0)) (by (with_reducible repeat (first | refine blk_drewN ?_ _ | refine blk_drew ?_ | refine blk_alloc ?_ _)); exact BK102.out) hb); have n5_ := Aside0.mk (below_step (by repeat (first | (with_reducible first | exact HB.out | apply below_alloc | apply pw_below_drewN | apply below_drew1 | refine below_set ?_ GE101.out | refine below_set ?_ GE102.out) | exact HB.out)) hb); clear HO_102000; clear HO_102001; clear BK101; clear BK102; clear HB; have HO_102000 := n0_; have HO_102001 := n1_; have HO106 := n2_; have BK101 := n3_; have BK102 := n4_; have HB := n5_; clear n0_ n1_ n2_ n3_ n4_ n5_; clear hb ho40) | ((with_reducible refine gate_builtin (b := .append) (xs := #[.tmp 37, .tmp 38]) rfl ?_); (try (refine gate_guard (by rfl) ?_; dsimp only)); at_builtin; refine Kd.R_append_rows (Kd.int .u8) (w0 := w) w.heap.size rfl (.tmp 37) (.tmp 38) 35 5 (.int .u8 0) 1 rfl Try.underlying35 info5 rfl (by decide) (by omega) v105 y104 l2 _ _ _ (fun k_ => (w.heap.size ≤ k_)) (fun _ => False) rfl rfl ?aO ?aR (fun _ _ h => h) (fun _ h => h.elim) ?aF ?aB ?aS ?aL ?_; (case aR => repeat (first | exact (Kd.C_below HR2.out HB.out) | (with_reducible refine Kd.C_alloc ?_ _) | (with_reducible refine Kd.C_drewN ?_ _) | (with_reducible refine Kd.C_drew ?_))); (case aB => exact (by repeat (first | (with_reducible first | exact HB.out | apply below_alloc | apply pw_below_drewN | apply below_drew1 | refine below_set ?_ GE101.out | refine below_set ?_ GE102.out) | exact HB.out))); (case aF => exact (fun k_ hk => (Nat.le_trans (below_size (by repeat (first | (with_reducible first | exact HB.out | apply below_alloc | apply pw_below_drewN | apply below_drew1 | refine below_set ?_ GE101.out | refine below_set ?_ GE102.out) | exact HB.out))) hk))); (case aO => exact (by (with_reducible repeat (first | apply Kd.R_alloc | apply Kd.R_drewN | apply Kd.R_drew)); exact Kd.R_mono HO106.out (fun _ hk => hk.1))); (case aS => exact (below_size (by repeat (first | (with_reducible first | exact HB.out | apply below_alloc | apply pw_below_drewN | apply below_drew1 | refine below_set ?_ GE101.out | refine below_set ?_ GE102.out) | exact HB.out)))); (case aL => have := LMc36.out; omega); intro v108 w41 ho hb hg hat; rw [← Ny107.out] at ho; have n0_ := Aside0.mk (Kd.V_afterv (ok := (fun k_ => ((P0_0_ k_ ∨ P0_1_ k_) ∨ w.heap.size ≤ k_) ∧ k_ ≠ gb101 ∧ k_ ≠ gb102)) (by (with_reducible repeat (first | apply Kd.V_alloc | apply Kd.V_drewN | apply Kd.V_drew)); exact HO_102000.out) hg hat); have n1_ := Aside0.mk (Kd.V_afterv (ok := (fun k_ => ((P0_0_ k_ ∨ P0_1_ k_) ∨ w.heap.size ≤ k_) ∧ k_ ≠ gb101 ∧ k_ ≠ gb102)) (by (with_reducible repeat (first | apply Kd.V_alloc | apply Kd.V_drewN | apply Kd.V_drew)); exact HO_102001.out) hg hat); have n2_ := Aside0.mk (blk_grown (g := gb101) (o := .cells #[.slice A0_0 l0_0.length c0_0, .slice A0_1 l0_1.length c0_1, .int .i64 a0_2, .bool a0_3] 25 (0, 0)) (by (with_reducible repeat (first | refine blk_drewN ?_ _ | refine blk_drew ?_ | refine blk_alloc ?_ _)); exact BK101.out) hg (Kd.R_ne HO106.out BK101.out (by decide))); have n3_ := Aside0.mk (blk_grown (g := gb102) (o := .cells #[.slice none 0 0, .slice none 0 0, .int .i64 0, .bool false] 25 (0, 0)) (by (with_reducible repeat (first | refine blk_drewN ?_ _ | refine blk_drew ?_ | refine blk_alloc ?_ _)); exact BK102.out) hg (Kd.R_ne HO106.out BK102.out (by decide))); have n4_ := Aside0.mk (hb); have n5_ := Aside0.mk (ho); clear HO_102000; clear HO_102001; clear BK101; clear BK102; clear HB; clear HO106; have HO_102000 := n0_; have HO_102001 := n1_; have BK101 := n2_; have BK102 := n3_; have HB := n4_; have HO109 := n5_; clear n0_ n1_ n2_ n3_ n4_ n5_; clear ho hb hg hat))
              go_loopg [8] kj3 (fun kq v8 w' => ∃ (x8_2 : List Int), Aside0 (sizarref45_Write.l0 kq a1 x8_2 l0_0 l0_1 a0_2 a0_3 = some (r1, r2, r3, r4, r5)) ∧ Aside0 (kq ≤ kj3) ∧ Aside0 (Kd.R (Kd.int .u8) 5 w' w.heap.size (fun k_ => (w.heap.size ≤ k_)) v8 x8_2) ∧ Aside0 (Kd.V (Kd.slice 5 (Kd.int .u8)) 35 w' w.heap.size (fun k_ => ((P0_0_ k_ ∨ P0_1_ k_) ∨ w.heap.size ≤ k_) ∧ some k_ ≠ (v8 : Value).ownBlock ∧ k_ ≠ gb101 ∧ k_ ≠ gb102) (.slice A0_0 l0_0.length c0_0) l0_0) ∧ Aside0 (Kd.V k76 76 w' w.heap.size (fun k_ => ((P0_0_ k_ ∨ P0_1_ k_) ∨ w.heap.size ≤ k_) ∧ some k_ ≠ (v8 : Value).ownBlock ∧ k_ ≠ gb101 ∧ k_ ≠ gb102) (.slice A0_1 l0_1.length c0_1) l0_1) ∧ Aside0 (w'.heap[gb101]? = some (.cells #[(.slice A0_0 l0_0.length c0_0), (.slice A0_1 l0_1.length c0_1), .int .i64 a0_2, .bool a0_3] 25 (0, 0))) ∧ Aside0 (w'.heap[gb102]? = some (.cells #[(.slice none 0 0), (.slice none 0 0), .int .i64 0, .bool false] 25 (0, 0))) ∧ Aside0 (Below w.heap.size w w'))
              case atStart => exact ⟨(y107), H', ⟨Nat.le_refl _⟩, ⟨by (with_reducible repeat (first | apply Kd.R_alloc | apply Kd.R_drewN | apply Kd.R_drew)); exact HO109.out⟩, ⟨by (with_reducible repeat (first | apply Kd.V_alloc | apply Kd.V_drewN | apply Kd.V_drew)); exact Kd.V_mono HO_102000.out (fun _ hk => ⟨hk.1.1, ⟨hk.2, ⟨hk.1.2.1, hk.1.2.2⟩⟩⟩)⟩, ⟨by (with_reducible repeat (first | apply Kd.V_alloc | apply Kd.V_drewN | apply Kd.V_drew)); exact Kd.V_mono HO_102001.out (fun _ hk => ⟨hk.1.1, ⟨hk.2, ⟨hk.1.2.1, hk.1.2.2⟩⟩⟩)⟩, ⟨by (with_reducible repeat (first | refine blk_drewN ?_ _ | refine blk_drew ?_ | refine blk_alloc ?_ _)); exact BK101.out⟩, ⟨by (with_reducible repeat (first | refine blk_drewN ?_ _ | refine blk_drew ?_ | refine blk_alloc ?_ _)); exact BK102.out⟩, ⟨by repeat (first | (with_reducible first | exact HB.out | apply below_alloc | apply pw_below_drewN | apply below_drew1 | refine below_set ?_ GE101.out | refine below_set ?_ GE102.out) | exact HB.out)⟩⟩
              case round =>
                clear H'
                try clear c1
                try clear c2
                try clear p2
                try clear c3
                try clear c8
                try clear c8b0
                try clear c8b1
                try clear c9
                try clear c10
                try clear c14
                try clear c14b0
                try clear c15
                try clear c19
                try clear c23
                try clear c26
                try clear c27
                try clear c29
                try clear c29b0
                try clear c29b1
                try clear c30
                try clear c32
                try clear c32b0
                try clear c32b1
                try clear c33
                try clear c36
                try clear c37
                try clear hcz11_0
                try clear hcz11_1
                try clear hcz11_2
                try clear hcz11_3
                try clear hcz13_0
                try clear hcz13_1
                try clear hcz13_2
                try clear hcz13_3
                try clear hcz16_0
                try clear hcz16_1
                try clear hcz16_2
                try clear hcz16_3
                try clear hcz18_0
                try clear hcz18_1
                try clear hcz18_2
                try clear hcz18_3
                try clear hcz20_0
                try clear hcz20_1
                try clear hcz20_2
                try clear hcz20_3
                try clear hcz22_0
                try clear hcz22_1
                try clear hcz22_2
                try clear hcz22_3
                try clear hcz24_0
                try clear hcz24_1
                try clear hcz24_2
                try clear hcz24_3
                try clear hcz28_0
                try clear hcz28_1
                try clear hcz28_2
                try clear hcz28_3
                try clear hcz31_0
                try clear hcz31_1
                try clear hcz31_2
                try clear hcz31_3
                try clear hcz34_0
                try clear hcz34_1
                try clear hcz34_2
                try clear hcz34_3
                try clear hcz35_0
                try clear hcz35_1
                try clear hcz35_2
                try clear hcz35_3
                try clear hcz38_0
                try clear hcz38_1
                try clear hcz38_2
                try clear hcz38_3
                try clear hfz11_0
                try clear hfz11_1
                try clear hfz11_2
                try clear hfz11_3
                try clear hfz13_0
                try clear hfz13_1
                try clear hfz13_2
                try clear hfz13_3
                try clear hfz16_0
                try clear hfz16_1
                try clear hfz16_2
                try clear hfz16_3
                try clear hfz18_0
                try clear hfz18_1
                try clear hfz18_2
                try clear hfz18_3
                try clear hfz20_0
                try clear hfz20_1
                try clear hfz20_2
                try clear hfz20_3
                try clear hfz22_0
                try clear hfz22_1
                try clear hfz22_2
                try clear hfz22_3
                try clear hfz24_0
                try clear hfz24_1
                try clear hfz24_2
                try clear hfz24_3
                try clear hfz28_0
                try clear hfz28_1
                try clear hfz28_2
                try clear hfz28_3
                try clear hfz31_0
                try clear hfz31_1
                try clear hfz31_2
                try clear hfz31_3
                try clear hfz34_0
                try clear hfz34_1
                try clear hfz34_2
                try clear hfz34_3
                try clear hfz35_0
                try clear hfz35_1
                try clear hfz35_2
                try clear hfz35_3
                try clear hfz38_0
                try clear hfz38_1
                try clear hfz38_2
                try clear hfz38_3
                try clear p2
                obtain ⟨x8_2, HA, HK2, HO_8, HO_102000, HO_102001, BK101, BK102, HB⟩ := hrel
                cases gk with
                | zero => exact absurd HA.out (by unfold sizarref45_Write.l0; exact fun h => by cases h)
                | succ k2 =>
                  have H := HA.out
                  clear HA
                  unfold sizarref45_Write.l0 at H
                  by_cases c42 : (x8_2.length : Int) < 128
                  · rw [if_pos c42] at H
                    have c42b0 : decide ((x8_2.length : Int) < 128) = true := decide_eq_true c42
                    have c42b1 : decide (x8_2.length < 128) = true := decide_eq_true (by omega)
                    clear c42
                    by_cases c43 : x8_2.length < 140737488355328
                    · rw [if_pos c43] at H
                      have LMc43 := Aside0.mk c43
                      clear c43
                      obtain ⟨y110, hy110⟩ : ∃ y_ : List Int, y_ = (x8_2 ++ [0]) := ⟨_, rfl⟩
                      replace H : (sizarref45_Write.l0 k2 a1 y110 l0_0 l0_1 a0_2 a0_3) = some (r1, r2, r3, r4, r5) := by first | (rw [hy110]; with_reducible exact H) | (have H2_ := (Option.bind_some _ _).symm.trans H; rw [hy110]; with_reducible exact H2_) | (have H2_ := (Option.bind_some _ _).symm.trans H; with_reducible exact H2_) | with_reducible exact H | (rw [hy110]; exact H) | exact H
                      have Ny110 := Aside0.mk hy110
                      clear hy110
                      have H' := Aside0.mk H
                      clear H
                      obtain ⟨Ao44, co44, eo44⟩ := Kd.R_slice HO_8.out
                      subst eo44
                      go_wp2_with (first | ((with_reducible refine gate_builtin (b := .append) (xs := #[.tmp 43, .tmp 44]) rfl ?_); (try (refine gate_guard (by rfl) ?_; dsimp only)); at_builtin; refine Kd.R_append (Kd.int .u8) (w0 := w) w.heap.size rfl (.tmp 43) (.tmp 44) 35 5 (.int .u8 0) 1 rfl Try.underlying35 info5 rfl (by decide) (by omega) (.slice Ao44 x8_2.length co44) x8_2 0 [.int .u8 0] (fun k_ => (w.heap.size ≤ k_)) (fun _ => False) rfl rfl ?aP (fun _ hk => hk.elim) ?aF ?aO ?aB ?aS ?aL ?_; (case aP => exact rfl); (case aB => exact (by repeat (first | (with_reducible first | exact HB.out | apply below_alloc | apply pw_below_drewN | apply below_drew1 | refine below_set ?_ GE101.out | refine below_set ?_ GE102.out) | exact HB.out))); (case aF => exact (fun k_ hk => (Nat.le_trans (below_size (by repeat (first | (with_reducible first | exact HB.out | apply below_alloc | apply pw_below_drewN | apply below_drew1 | refine below_set ?_ GE101.out | refine below_set ?_ GE102.out) | exact HB.out))) hk))); (case aO => exact (by (with_reducible repeat (first | apply Kd.R_alloc | apply Kd.R_drewN | apply Kd.R_drew)); exact HO_8.out)); (case aS => exact (below_size (by repeat (first | (with_reducible first | exact HB.out | apply below_alloc | apply pw_below_drewN | apply below_drew1 | refine below_set ?_ GE101.out | refine below_set ?_ GE102.out) | exact HB.out)))); (case aL => have := LMc43.out; omega); intro v111 w45 ho hb hg hat; rw [← Ny110.out] at ho; have n0_ := Aside0.mk (Kd.V_afterv (ok := (fun k_ => ((P0_0_ k_ ∨ P0_1_ k_) ∨ w.heap.size ≤ k_) ∧ k_ ≠ gb101 ∧ k_ ≠ gb102)) (by (with_reducible repeat (first | apply Kd.V_alloc | apply Kd.V_drewN | apply Kd.V_drew)); exact Kd.V_mono HO_102000.out (fun _ hk => ⟨⟨hk.1, ⟨hk.2.2.1, hk.2.2.2⟩⟩, hk.2.1⟩)) hg hat); have n1_ := Aside0.mk (Kd.V_afterv (ok := (fun k_ => ((P0_0_ k_ ∨ P0_1_ k_) ∨ w.heap.size ≤ k_) ∧ k_ ≠ gb101 ∧ k_ ≠ gb102)) (by (with_reducible repeat (first | apply Kd.V_alloc | apply Kd.V_drewN | apply Kd.V_drew)); exact Kd.V_mono HO_102001.out (fun _ hk => ⟨⟨hk.1, ⟨hk.2.2.1, hk.2.2.2⟩⟩, hk.2.1⟩)) hg hat); have n2_ := Aside0.mk (blk_grown (g := gb101) (o := .cells #[.slice A0_0 l0_0.length c0_0, .slice A0_1 l0_1.length c0_1, .int .i64 a0_2, .bool a0_3] 25 (0, 0)) (by (with_reducible repeat (first | refine blk_drewN ?_ _ | refine blk_drew ?_ | refine blk_alloc ?_ _)); exact BK101.out) hg (Kd.R_ne HO_8.out BK101.out (by decide))); have n3_ := Aside0.mk (blk_grown (g := gb102) (o := .cells #[.slice none 0 0, .slice none 0 0, .int .i64 0, .bool false] 25 (0, 0)) (by (with_reducible repeat (first | refine blk_drewN ?_ _ | refine blk_drew ?_ | refine blk_alloc ?_ _)); exact BK102.out) hg (Kd.R_ne HO_8.out BK102.out (by decide))); have n4_ := Aside0.mk (hb); have n5_ := Aside0.mk (ho); clear HO_102000; clear HO_102001; clear BK101; clear BK102; clear HB; clear HO_8; have HO_102000 := n0_; have HO_102001 := n1_; have BK101 := n2_; have BK102 := n3_; have HB := n4_; have HO112 := n5_; clear n0_ n1_ n2_ n3_ n4_ n5_; clear ho hb hg hat))
                      go_roundg k2
                      case measure => have := HJ3.out; have := HK2.out; omega
                      case rel => exact ⟨(y110), H', ⟨by have := HJ3.out; have := HK2.out; omega⟩, ⟨by (with_reducible repeat (first | apply Kd.R_alloc | apply Kd.R_drewN | apply Kd.R_drew)); exact HO112.out⟩, ⟨by (with_reducible repeat (first | apply Kd.V_alloc | apply Kd.V_drewN | apply Kd.V_drew)); exact Kd.V_mono HO_102000.out (fun _ hk => ⟨hk.1.1, ⟨hk.2, ⟨hk.1.2.1, hk.1.2.2⟩⟩⟩)⟩, ⟨by (with_reducible repeat (first | apply Kd.V_alloc | apply Kd.V_drewN | apply Kd.V_drew)); exact Kd.V_mono HO_102001.out (fun _ hk => ⟨hk.1.1, ⟨hk.2, ⟨hk.1.2.1, hk.1.2.2⟩⟩⟩)⟩, ⟨by (with_reducible repeat (first | refine blk_drewN ?_ _ | refine blk_drew ?_ | refine blk_alloc ?_ _)); exact BK101.out⟩, ⟨by (with_reducible repeat (first | refine blk_drewN ?_ _ | refine blk_drew ?_ | refine blk_alloc ?_ _)); exact BK102.out⟩, ⟨by repeat (first | (with_reducible first | exact HB.out | apply below_alloc | apply pw_below_drewN | apply below_drew1 | refine below_set ?_ GE101.out | refine below_set ?_ GE102.out) | exact HB.out)⟩⟩
                    · rw [if_neg c43] at H
                      exact absurd H (by simp)
                  · rw [if_neg c42] at H
                    have c42b0 : decide ((x8_2.length : Int) < 128) = false := decide_eq_false c42
                    have c42b1 : decide (x8_2.length < 128) = false := decide_eq_false (by omega)
                    clear c42
                    obtain ⟨y113, hy113⟩ : ∃ y_ : List (S76), y_ = (([] : List (S76))) := ⟨_, rfl⟩
                    replace H : (if y113.length + l0_1.length < 4398046511104 then ((some (y113 ++ l0_1 : List (S76))).bind fun y116 => (if y116.length < 4398046511104 then (some (l0_0, (y116 ++ [(⟨a1, x8_2⟩ : S76)]), a0_2, a0_3, 0)) else (none))) else (none)) = some (r1, r2, r3, r4, r5) := by first | (rw [hy113]; with_reducible exact H) | (have H2_ := (Option.bind_some _ _).symm.trans H; rw [hy113]; with_reducible exact H2_) | (have H2_ := (Option.bind_some _ _).symm.trans H; with_reducible exact H2_) | with_reducible exact H | (rw [hy113]; exact H) | exact H
                    have Ny113 := Aside0.mk hy113
                    clear hy113
                    by_cases c46 : y113.length + l0_1.length < 4398046511104
                    · rw [if_pos c46] at H
                      have LMc46 := Aside0.mk c46
                      clear c46
                      obtain ⟨y116, hy116⟩ : ∃ y_ : List (S76), y_ = (y113 ++ l0_1) := ⟨_, rfl⟩
                      replace H : (if y116.length < 4398046511104 then (some (l0_0, (y116 ++ [(⟨a1, x8_2⟩ : S76)]), a0_2, a0_3, 0)) else (none)) = some (r1, r2, r3, r4, r5) := by first | (rw [hy116]; with_reducible exact H) | (have H2_ := (Option.bind_some _ _).symm.trans H; rw [hy116]; with_reducible exact H2_) | (have H2_ := (Option.bind_some _ _).symm.trans H; with_reducible exact H2_) | with_reducible exact H | (rw [hy116]; exact H) | exact H
                      have Ny116 := Aside0.mk hy116
                      clear hy116
                      by_cases c47 : y116.length < 4398046511104
                      · rw [if_pos c47] at H
                        have LMc47 := Aside0.mk c47
                        clear c47
                        obtain ⟨y119, hy119⟩ : ∃ y_ : List (S76), y_ = (y116 ++ [(⟨a1, x8_2⟩ : S76)]) := ⟨_, rfl⟩
                        replace H : (some (l0_0, y119, a0_2, a0_3, 0)) = some (r1, r2, r3, r4, r5) := by first | (rw [hy119]; with_reducible exact H) | (have H2_ := (Option.bind_some _ _).symm.trans H; rw [hy119]; with_reducible exact H2_) | (have H2_ := (Option.bind_some _ _).symm.trans H; with_reducible exact H2_) | with_reducible exact H | (rw [hy119]; exact H) | exact H
                        have Ny119 := Aside0.mk hy119
                        clear hy119
                        simp only [Option.some.injEq, Prod.mk.injEq] at H
                        obtain ⟨rfl, rfl, rfl, rfl, rfl⟩ := H
                        obtain ⟨Ao48, co48, eo48⟩ := Kd.R_slice HO_8.out
                        subst eo48
                        go_wp2_with (first | ((with_reducible refine gate_dst (N := 46) rfl ?_); (try (refine gate_guard (by rfl) ?_; dsimp only)); refine Kd.N_lit k76 _ 76 ?hg (N' := 46) ?hd (xs := ([] : List (S76))) (inner := []) (ok := (fun k_ => ((P0_0_ k_ ∨ P0_1_ k_) ∨ w.heap.size ≤ k_) ∧ some k_ ≠ (.slice Ao48 x8_2.length co48 : Value).ownBlock ∧ k_ ≠ gb101 ∧ k_ ≠ gb102)) (okp := (fun k_ => ((P0_0_ k_ ∨ P0_1_ k_) ∨ w.heap.size ≤ k_) ∧ some k_ ≠ (.slice Ao48 x8_2.length co48 : Value).ownBlock ∧ k_ ≠ gb101 ∧ k_ ≠ gb102)) ?hr ?hp (fun _ hk => hk) ((show ∀ k_, wr.heap.size ≤ k_ → (fun k_ => ((P0_0_ k_ ∨ P0_1_ k_) ∨ w.heap.size ≤ k_) ∧ some k_ ≠ (.slice Ao48 x8_2.length co48 : Value).ownBlock ∧ k_ ≠ gb101 ∧ k_ ≠ gb102) k_ from fun k_ hk => ⟨(.inr (Nat.le_trans (below_size (by repeat (first | (with_reducible first | exact HB.out | apply below_alloc | apply pw_below_drewN | apply below_drew1 | refine below_set ?_ GE101.out | refine below_set ?_ GE102.out) | exact HB.out))) hk)), Kd.fresh' (Kd.R_lt (by (with_reducible repeat (first | apply Kd.R_alloc | apply Kd.R_drewN | apply Kd.R_drew)); exact HO_8.out)) k_ hk, Kd.freshB (g := gb101) (o := .cells #[.slice A0_0 l0_0.length c0_0, .slice A0_1 l0_1.length c0_1, .int .i64 a0_2, .bool a0_3] 25 (0, 0)) (by (with_reducible repeat (first | refine blk_drewN ?_ _ | refine blk_drew ?_ | refine blk_alloc ?_ _)); exact BK101.out) k_ hk, Kd.freshB (g := gb102) (o := .cells #[.slice none 0 0, .slice none 0 0, .int .i64 0, .bool false] 25 (0, 0)) (by (with_reducible repeat (first | refine blk_drewN ?_ _ | refine blk_drew ?_ | refine blk_alloc ?_ _)); exact BK102.out) k_ hk⟩) _ (Nat.le_refl _)) (Below.refl _ _) (Nat.le_refl _) (by simp) ?_; (case hd => rfl); (case hg => rfl); (case hr => first | (go_simp; done) | (go_simp; rfl)); (case hp => exact (Reps.none _ _)); intro v114 w49 ho50 hb hg_ hnew_; clear hg_ hnew_; (first | rw [← Ny113.out] at ho50 | (simp only [Int.reduceToNat] at ho50; rw [← Ny113.out] at ho50)); have n0_ := Aside0.mk (Kd.R_below (by (with_reducible repeat (first | apply Kd.R_alloc | apply Kd.R_drewN | apply Kd.R_drew)); exact HO_8.out) hb); have n1_ := Aside0.mk (Kd.V_elder' (by (with_reducible repeat (first | apply Kd.V_alloc | apply Kd.V_drewN | apply Kd.V_drew)); exact HO_102000.out) (Kd.N_base ho50) hb); have n2_ := Aside0.mk (Kd.V_elder' (by (with_reducible repeat (first | apply Kd.V_alloc | apply Kd.V_drewN | apply Kd.V_drew)); exact HO_102001.out) (Kd.N_base ho50) hb); have n3_ := Aside0.mk (Kd.N_lower ho50 (below_size (by repeat (first | (with_reducible first | exact HB.out | apply below_alloc | apply pw_below_drewN | apply below_drew1 | refine below_set ?_ GE101.out | refine below_set ?_ GE102.out) | exact HB.out)))); have n4_ := Aside0.mk (blk_below (g := gb101) (o := .cells #[.slice A0_0 l0_0.length c0_0, .slice A0_1 l0_1.length c0_1, .int .i64 a0_2, .bool a0_3] 25 (0, 0)) (by (with_reducible repeat (first | refine blk_drewN ?_ _ | refine blk_drew ?_ | refine blk_alloc ?_ _)); exact BK101.out) hb); have n5_ := Aside0.mk (blk_below (g := gb102) (o := .cells #[.slice none 0 0, .slice none 0 0, .int .i64 0, .bool false] 25 (0, 0)) (by (with_reducible repeat (first | refine blk_drewN ?_ _ | refine blk_drew ?_ | refine blk_alloc ?_ _)); exact BK102.out) hb); have n6_ := Aside0.mk (below_step (by repeat (first | (with_reducible first | exact HB.out | apply below_alloc | apply pw_below_drewN | apply below_drew1 | refine below_set ?_ GE101.out | refine below_set ?_ GE102.out) | exact HB.out)) hb); clear HO_8; clear HO_102000; clear HO_102001; clear BK101; clear BK102; clear HB; have HO_8 := n0_; have HO_102000 := n1_; have HO_102001 := n2_; have HO115 := n3_; have BK101 := n4_; have BK102 := n5_; have HB := n6_; clear n0_ n1_ n2_ n3_ n4_ n5_ n6_; clear hb ho50; have hnb51 := NB101_102.out; have hnc51 := NB102_101.out; have hcz52_0 : w49.cell? ⟨gb101, 0, none⟩ = some (.slice A0_0 l0_0.length c0_0) := (blk_cell BK101.out 0).trans rfl; have hcz52_1 : w49.cell? ⟨gb101, 1, none⟩ = some (.slice A0_1 l0_1.length c0_1) := (blk_cell BK101.out 1).trans rfl; have hcz52_2 : w49.cell? ⟨gb101, 2, none⟩ = some (.int .i64 a0_2) := (blk_cell BK101.out 2).trans rfl; have hcz52_3 : w49.cell? ⟨gb101, 3, none⟩ = some (.bool a0_3) := (blk_cell BK101.out 3).trans rfl; have hfz52_0 := blk_frozen BK101.out 0; have hfz52_1 := blk_frozen BK101.out 1; have hfz52_2 := blk_frozen BK101.out 2; have hfz52_3 := blk_frozen BK101.out 3) | ((with_reducible refine gate_builtin (b := .append) (xs := #[.tmp 46, .tmp 48]) rfl ?_); (try (refine gate_guard (by rfl) ?_; dsimp only)); at_builtin; refine Kd.N_append_rows k76 (w0 := w) w.heap.size rfl (.tmp 46) (.tmp 48) 23 76 (.agg #[(.int .i64 0), (.slice none 0 0)]) 32 rfl Try.underlying23 info76 rfl (by decide) (by omega) v114 y113 l0_1 _ _ _ (fun k_ => ((P0_0_ k_ ∨ P0_1_ k_) ∨ w.heap.size ≤ k_) ∧ some k_ ≠ (.slice Ao48 x8_2.length co48 : Value).ownBlock ∧ k_ ≠ gb101 ∧ k_ ≠ gb102) (fun k_ => ((fun k_ => ((P0_0_ k_ ∨ P0_1_ k_) ∨ w.heap.size ≤ k_) ∧ some k_ ≠ (.slice Ao48 x8_2.length co48 : Value).ownBlock ∧ k_ ≠ gb101 ∧ k_ ≠ gb102)) k_ ∧ some k_ ≠ (v114 : Value).ownBlock) rfl rfl ?aO ?aR (fun _ hk => hk) ?aF ?aB ?aS ?aL ?_; (case aR => exact (by skip; exact Kd.V_F (Kd.V_mono (ok' := (fun k_ => ((fun k_ => ((P0_0_ k_ ∨ P0_1_ k_) ∨ w.heap.size ≤ k_) ∧ some k_ ≠ (.slice Ao48 x8_2.length co48 : Value).ownBlock ∧ k_ ≠ gb101 ∧ k_ ≠ gb102)) k_ ∧ some k_ ≠ (v114 : Value).ownBlock)) (HO_102001.out) (fun k_ hk => ⟨⟨hk.1.1, ⟨hk.1.2.1, ⟨hk.1.2.2.1, hk.1.2.2.2⟩⟩⟩, hk.2⟩)))); (case aB => exact (by repeat (first | (with_reducible first | exact HB.out | apply below_alloc | apply pw_below_drewN | apply below_drew1 | refine below_set ?_ GE101.out | refine below_set ?_ GE102.out) | exact HB.out))); (case aF => exact (fun k_ hk => ⟨(.inr (Nat.le_trans (below_size (by repeat (first | (with_reducible first | exact HB.out | apply below_alloc | apply pw_below_drewN | apply below_drew1 | refine below_set ?_ GE101.out | refine below_set ?_ GE102.out) | exact HB.out))) hk)), Kd.fresh' (Kd.R_lt (by (with_reducible repeat (first | apply Kd.R_alloc | apply Kd.R_drewN | apply Kd.R_drew)); exact HO_8.out)) k_ hk, Kd.freshB (g := gb101) (o := .cells #[.slice A0_0 l0_0.length c0_0, .slice A0_1 l0_1.length c0_1, .int .i64 a0_2, .bool a0_3] 25 (0, 0)) (by (with_reducible repeat (first | refine blk_drewN ?_ _ | refine blk_drew ?_ | refine blk_alloc ?_ _)); exact BK101.out) k_ hk, Kd.freshB (g := gb102) (o := .cells #[.slice none 0 0, .slice none 0 0, .int .i64 0, .bool false] 25 (0, 0)) (by (with_reducible repeat (first | refine blk_drewN ?_ _ | refine blk_drew ?_ | refine blk_alloc ?_ _)); exact BK102.out) k_ hk⟩)); (case aO => exact (by (with_reducible repeat (first | apply Kd.N_alloc | apply Kd.N_drewN | apply Kd.N_drew)); exact HO115.out)); (case aS => exact (below_size (by repeat (first | (with_reducible first | exact HB.out | apply below_alloc | apply pw_below_drewN | apply below_drew1 | refine below_set ?_ GE101.out | refine below_set ?_ GE102.out) | exact HB.out)))); (case aL => have := LMc46.out; omega); intro v117 w53 ho hb hg hat; rw [← Ny116.out] at ho; have n0_ := Aside0.mk (Kd.R_over' (by (with_reducible repeat (first | apply Kd.R_alloc | apply Kd.R_drewN | apply Kd.R_drew)); exact HO_8.out) (Kd.N_typed (by (with_reducible repeat (first | apply Kd.N_alloc | apply Kd.N_drewN | apply Kd.N_drew)); exact HO115.out)) (by decide) hg); have n1_ := Aside0.mk (Kd.V_afterv (ok := (fun k_ => ((P0_0_ k_ ∨ P0_1_ k_) ∨ w.heap.size ≤ k_) ∧ some k_ ≠ (.slice Ao48 x8_2.length co48 : Value).ownBlock ∧ k_ ≠ gb101 ∧ k_ ≠ gb102)) (by (with_reducible repeat (first | apply Kd.V_alloc | apply Kd.V_drewN | apply Kd.V_drew)); exact HO_102000.out) hg hat); have n2_ := Aside0.mk (Kd.V_afterv (ok := (fun k_ => ((P0_0_ k_ ∨ P0_1_ k_) ∨ w.heap.size ≤ k_) ∧ some k_ ≠ (.slice Ao48 x8_2.length co48 : Value).ownBlock ∧ k_ ≠ gb101 ∧ k_ ≠ gb102)) (by (with_reducible repeat (first | apply Kd.V_alloc | apply Kd.V_drewN | apply Kd.V_drew)); exact HO_102001.out) hg hat); have n3_ := Aside0.mk (blk_grown (g := gb101) (o := .cells #[.slice A0_0 l0_0.length c0_0, .slice A0_1 l0_1.length c0_1, .int .i64 a0_2, .bool a0_3] 25 (0, 0)) (by (with_reducible repeat (first | refine blk_drewN ?_ _ | refine blk_drew ?_ | refine blk_alloc ?_ _)); exact BK101.out) hg (Kd.N_ne HO115.out BK101.out (by decide))); have n4_ := Aside0.mk (blk_grown (g := gb102) (o := .cells #[.slice none 0 0, .slice none 0 0, .int .i64 0, .bool false] 25 (0, 0)) (by (with_reducible repeat (first | refine blk_drewN ?_ _ | refine blk_drew ?_ | refine blk_alloc ?_ _)); exact BK102.out) hg (Kd.N_ne HO115.out BK102.out (by decide))); have n5_ := Aside0.mk (hb); have n6_ := Aside0.mk (ho); clear HO_8; clear HO_102000; clear HO_102001; clear BK101; clear BK102; clear HB; clear HO115; have HO_8 := n0_; have HO_102000 := n1_; have HO_102001 := n2_; have BK101 := n3_; have BK102 := n4_; have HB := n5_; have HO118 := n6_; clear n0_ n1_ n2_ n3_ n4_ n5_ n6_; clear ho hb hg hat) | ((with_reducible refine gate_builtin (b := .append) (xs := #[.tmp 49, .tmp 53]) rfl ?_); (try (refine gate_guard (by rfl) ?_; dsimp only)); at_builtin; refine Kd.N_append k76 (w0 := w) w.heap.size rfl (.tmp 49) (.tmp 53) 23 76 (.agg #[(.int .i64 0), (.slice none 0 0)]) 32 rfl Try.underlying23 info76 rfl (by decide) (by omega) v117 y116 (⟨a1, x8_2⟩ : S76) [.int .i64 a1, .slice Ao48 x8_2.length co48] (fun k_ => ((P0_0_ k_ ∨ P0_1_ k_) ∨ w.heap.size ≤ k_) ∧ k_ ≠ gb101 ∧ k_ ≠ gb102) (fun k_ => ((fun k_ => ((P0_0_ k_ ∨ P0_1_ k_) ∨ w.heap.size ≤ k_) ∧ k_ ≠ gb101 ∧ k_ ≠ gb102)) k_ ∧ some k_ ≠ (v117 : Value).ownBlock) rfl rfl ?aP (fun _ hk => hk) ?aF ?aO ?aB ?aS ?aL ?_; (case aP => exact (k76_mkF _ _ (⟨a1, x8_2⟩ : S76) (Kd.R_reads' (Kd.R_mono (ok' := (fun k_ => ((fun k_ => ((P0_0_ k_ ∨ P0_1_ k_) ∨ w.heap.size ≤ k_) ∧ k_ ≠ gb101 ∧ k_ ≠ gb102)) k_ ∧ some k_ ≠ (v117 : Value).ownBlock)) (Kd.R_types (Kd.R_types (Kd.R_apart' (HO_8.out) (Kd.N_typed HO118.out) (by decide)) BK101.out (by decide)) BK102.out (by decide)) (fun k_ hk => ⟨⟨(.inr (hk.1.1.1)), ⟨hk.1.2, hk.2⟩⟩, hk.1.1.2⟩))).2.1 (Kd.R_F (Kd.R_mono (ok' := (fun k_ => ((fun k_ => ((P0_0_ k_ ∨ P0_1_ k_) ∨ w.heap.size ≤ k_) ∧ k_ ≠ gb101 ∧ k_ ≠ gb102)) k_ ∧ some k_ ≠ (v117 : Value).ownBlock)) (Kd.R_types (Kd.R_types (Kd.R_apart' (HO_8.out) (Kd.N_typed HO118.out) (by decide)) BK101.out (by decide)) BK102.out (by decide)) (fun k_ hk => ⟨⟨(.inr (hk.1.1.1)), ⟨hk.1.2, hk.2⟩⟩, hk.1.1.2⟩))))); (case aB => exact (by repeat (first | (with_reducible first | exact HB.out | apply below_alloc | apply pw_below_drewN | apply below_drew1 | refine below_set ?_ GE101.out | refine below_set ?_ GE102.out) | exact HB.out))); (case aF => exact (fun k_ hk => ⟨(.inr (Nat.le_trans (below_size (by repeat (first | (with_reducible first | exact HB.out | apply below_alloc | apply pw_below_drewN | apply below_drew1 | refine below_set ?_ GE101.out | refine below_set ?_ GE102.out) | exact HB.out))) hk)), Kd.freshB (g := gb101) (o := .cells #[.slice A0_0 l0_0.length c0_0, .slice A0_1 l0_1.length c0_1, .int .i64 a0_2, .bool a0_3] 25 (0, 0)) (by (with_reducible repeat (first | refine blk_drewN ?_ _ | refine blk_drew ?_ | refine blk_alloc ?_ _)); exact BK101.out) k_ hk, Kd.freshB (g := gb102) (o := .cells #[.slice none 0 0, .slice none 0 0, .int .i64 0, .bool false] 25 (0, 0)) (by (with_reducible repeat (first | refine blk_drewN ?_ _ | refine blk_drew ?_ | refine blk_alloc ?_ _)); exact BK102.out) k_ hk⟩)); (case aO => exact (by (with_reducible repeat (first | apply Kd.N_alloc | apply Kd.N_drewN | apply Kd.N_drew)); exact Kd.N_mono HO118.out (fun _ hk => ⟨hk.1, ⟨hk.2.2.1, hk.2.2.2⟩⟩))); (case aS => exact (below_size (by repeat (first | (with_reducible first | exact HB.out | apply below_alloc | apply pw_below_drewN | apply below_drew1 | refine below_set ?_ GE101.out | refine below_set ?_ GE102.out) | exact HB.out)))); (case aL => have := LMc47.out; omega); intro v120 w54 ho hb hg hat; rw [← Ny119.out] at ho; have n0_ := Aside0.mk (Kd.V_afterv (ok := (fun k_ => ((P0_0_ k_ ∨ P0_1_ k_) ∨ w.heap.size ≤ k_) ∧ some k_ ≠ (.slice Ao48 x8_2.length co48 : Value).ownBlock ∧ k_ ≠ gb101 ∧ k_ ≠ gb102)) (by (with_reducible repeat (first | apply Kd.V_alloc | apply Kd.V_drewN | apply Kd.V_drew)); exact HO_102000.out) hg hat); have n1_ := Aside0.mk (Kd.V_afterv (ok := (fun k_ => ((P0_0_ k_ ∨ P0_1_ k_) ∨ w.heap.size ≤ k_) ∧ some k_ ≠ (.slice Ao48 x8_2.length co48 : Value).ownBlock ∧ k_ ≠ gb101 ∧ k_ ≠ gb102)) (by (with_reducible repeat (first | apply Kd.V_alloc | apply Kd.V_drewN | apply Kd.V_drew)); exact HO_102001.out) hg hat); have n2_ := Aside0.mk (blk_grown (g := gb101) (o := .cells #[.slice A0_0 l0_0.length c0_0, .slice A0_1 l0_1.length c0_1, .int .i64 a0_2, .bool a0_3] 25 (0, 0)) (by (with_reducible repeat (first | refine blk_drewN ?_ _ | refine blk_drew ?_ | refine blk_alloc ?_ _)); exact BK101.out) hg (Kd.N_ne HO118.out BK101.out (by decide))); have n3_ := Aside0.mk (blk_grown (g := gb102) (o := .cells #[.slice none 0 0, .slice none 0 0, .int .i64 0, .bool false] 25 (0, 0)) (by (with_reducible repeat (first | refine blk_drewN ?_ _ | refine blk_drew ?_ | refine blk_alloc ?_ _)); exact BK102.out) hg (Kd.N_ne HO118.out BK102.out (by decide))); have n4_ := Aside0.mk (hb); have n5_ := Aside0.mk (ho); clear HO_102000; clear HO_102001; clear BK101; clear BK102; clear HB; clear HO118; clear HO_8; have HO_102000 := n0_; have HO_102001 := n1_; have BK101 := n2_; have BK102 := n3_; have HB := n4_; have HO121 := n5_; clear n0_ n1_ n2_ n3_ n4_ n5_; clear ho hb hg hat; obtain ⟨Ao55, co55, eo55⟩ := Kd.N_slice HO121.out; subst eo55; have hcz56_0 : w54.cell? ⟨gb101, 0, none⟩ = some (.slice A0_0 l0_0.length c0_0) := (blk_cell BK101.out 0).trans rfl; have hcz56_1 : w54.cell? ⟨gb101, 1, none⟩ = some (.slice A0_1 l0_1.length c0_1) := (blk_cell BK101.out 1).trans rfl; have hcz56_2 : w54.cell? ⟨gb101, 2, none⟩ = some (.int .i64 a0_2) := (blk_cell BK101.out 2).trans rfl; have hcz56_3 : w54.cell? ⟨gb101, 3, none⟩ = some (.bool a0_3) := (blk_cell BK101.out 3).trans rfl; have hfz56_0 := blk_frozen BK101.out 0; have hfz56_1 := blk_frozen BK101.out 1; have hfz56_2 := blk_frozen BK101.out 2; have hfz56_3 := blk_frozen BK101.out 3; have hcz57_0 : w54.cell? ⟨gb102, 0, none⟩ = some (.slice none 0 0) := (blk_cell BK102.out 0).trans rfl; have hcz57_1 : w54.cell? ⟨gb102, 1, none⟩ = some (.slice none 0 0) := (blk_cell BK102.out 1).trans rfl; have hcz57_2 : w54.cell? ⟨gb102, 2, none⟩ = some (.int .i64 0) := (blk_cell BK102.out 2).trans rfl; have hcz57_3 : w54.cell? ⟨gb102, 3, none⟩ = some (.bool false) := (blk_cell BK102.out 3).trans rfl; have hfz57_0 := blk_frozen BK102.out 0; have hfz57_1 := blk_frozen BK102.out 1; have hfz57_2 := blk_frozen BK102.out 2; have hfz57_3 := blk_frozen BK102.out 3))
                        refine bodyPost_ret (results_ct rfl _ _ gb102 25 #[.slice A0_0 l0_0.length c0_0, .slice Ao55 y119.length co55, .int .i64 a0_2, .bool a0_3] (0, 0) _ rfl (by (with_reducible repeat (first | refine blk_drewN ?_ _ | refine blk_drew ?_ | refine blk_alloc ?_ _)); refine blk_put (cs := #[.slice A0_0 l0_0.length c0_0, .slice Ao55 y119.length co55, .int .i64 a0_2, .bool false]) ?_ 3 _ rfl; (with_reducible repeat (first | refine blk_drewN ?_ _ | refine blk_drew ?_ | refine blk_alloc ?_ _)); refine blk_put (cs := #[.slice A0_0 l0_0.length c0_0, .slice Ao55 y119.length co55, .int .i64 0, .bool false]) ?_ 2 _ rfl; (with_reducible repeat (first | refine blk_drewN ?_ _ | refine blk_drew ?_ | refine blk_alloc ?_ _)); refine blk_put (cs := #[.slice A0_0 l0_0.length c0_0, .slice none 0 0, .int .i64 0, .bool false]) ?_ 1 _ rfl; (with_reducible repeat (first | refine blk_drewN ?_ _ | refine blk_drew ?_ | refine blk_alloc ?_ _)); refine blk_put (cs := #[.slice none 0 0, .slice none 0 0, .int .i64 0, .bool false]) ?_ 0 _ rfl; (with_reducible repeat (first | refine blk_drewN ?_ _ | refine blk_drew ?_ | refine blk_alloc ?_ _)); refine blk_far ?_ NB102_101.out _; (with_reducible repeat (first | refine blk_drewN ?_ _ | refine blk_drew ?_ | refine blk_alloc ?_ _)); exact BK102.out) Try.underlying25 rfl (by kernel_rfl)) rfl ?_
                        exact ⟨_, _, by first | rfl | (simp [errW_none, errW_some] <;> rfl) | (simp [*, errW_none, errW_some] <;> rfl), by (with_reducible repeat (first | apply Kd.V_alloc | apply Kd.V_drewN | apply Kd.V_drew)); exact Kd.V_mono (Kd.V_far (p := ⟨gb102, 3, none⟩) (Kd.V_far (p := ⟨gb102, 2, none⟩) (Kd.V_far (p := ⟨gb102, 1, none⟩) (Kd.V_far (p := ⟨gb102, 0, none⟩) (Kd.V_far (p := ⟨gb101, 1, none⟩) (Kd.V_mono (Kd.V_mono HO_102000.out (fun k_ hk => (⟨hk, hk.1.2.2.1⟩ : _ ∧ k_ ≠ gb101))) (fun k_ hk => (⟨hk, hk.1.1.2.2.2⟩ : _ ∧ k_ ≠ gb102))) (fun _ hk => hk.1.2) (.slice Ao55 y119.length co55)) (fun _ hk => hk.2) (.slice A0_0 l0_0.length c0_0)) (fun _ hk => hk.2) (.slice Ao55 y119.length co55)) (fun _ hk => hk.2) (.int .i64 a0_2)) (fun _ hk => hk.2) (.bool a0_3)) (fun _ hk => ⟨hk.1.1.1.1, hk.1.1.2⟩), by (with_reducible repeat (first | apply Kd.N_alloc | apply Kd.N_drewN | apply Kd.N_drew)); exact Kd.N_mono (Kd.N_far (p := ⟨gb102, 3, none⟩) (Kd.N_far (p := ⟨gb102, 2, none⟩) (Kd.N_far (p := ⟨gb102, 1, none⟩) (Kd.N_far (p := ⟨gb102, 0, none⟩) (Kd.N_far (p := ⟨gb101, 1, none⟩) (Kd.N_mono (Kd.N_mono HO121.out (fun k_ hk => (⟨hk, hk.2.1⟩ : _ ∧ k_ ≠ gb101))) (fun k_ hk => (⟨hk, hk.1.2.2⟩ : _ ∧ k_ ≠ gb102))) (fun _ hk => hk.1.2) (.slice Ao55 y119.length co55)) (fun _ hk => hk.2) (.slice A0_0 l0_0.length c0_0)) (fun _ hk => hk.2) (.slice Ao55 y119.length co55)) (fun _ hk => hk.2) (.int .i64 a0_2)) (fun _ hk => hk.2) (.bool a0_3)) (fun _ hk => hk.1.1.1), by repeat (first | (with_reducible first | exact HB.out | apply below_alloc | apply pw_below_drewN | apply below_drew1 | refine below_set ?_ GE101.out | refine below_set ?_ GE102.out) | exact HB.out)⟩
                      · rw [if_neg c47] at H
                        exact absurd H (by simp)
                    · rw [if_neg c46] at H
                      exact absurd H (by simp)
            · rw [if_neg c36] at H
              exact absurd H (by simp)

end Go.Proofs.Ytlnmjgkeiljniaa.Q
/- disk.Write, with footprints. -/
namespace Go.Proofs.Ytlnmjgkeiljniaa.Q
open Go.RowKit Go.Proofs.YtlnmjgkeiljniaaW.PrintWords Go.Proofs.YtlnmjgkeiljniaaW.PrintLast Go.Proofs.YtlnmjgkeiljniaaW.PrintMore
set_option linter.unusedVariables false
set_option linter.unusedSimpArgs false
/-- a disk in memory, and where it lies -/
def DiskF (W : World) (ok : Nat → Prop) (v : Value) (d : Dk) : Prop := ∃ A0 c0 A1 c1, v = .agg #[.slice A0 d.s.length c0, .slice A1 d.p.length c1, .int .i64 d.left, .bool d.st] ∧ d.s.length ≤ c0 ∧ d.p.length ≤ c1 ∧ Kd.F (Kd.slice 5 (Kd.int .u8)) W ok A0 d.s.length d.s ∧ Kd.F k76 W ok A1 d.p.length d.p
section
variable {W W1 : World} {ok ok' : Nat → Prop} {v : Value} {d : Dk}
theorem DiskF.V (h : DiskF W ok v d) : DiskV W v d := by
  obtain ⟨A0, c0, A1, c1, e, h1, h2, h3, h4⟩ := h
  exact ⟨A0, c0, A1, c1, e, h1, h2, Kd.F_now h3, Kd.F_now h4⟩
theorem DiskV.F (h : DiskV W v d) : DiskF W (fun k => k < W.heap.size) v d := by
  obtain ⟨A0, c0, A1, c1, e, h1, h2, h3, h4⟩ := h
  exact ⟨A0, c0, A1, c1, e, h1, h2, Kd.C_F kSec_heap h3, Kd.C_F k76_heap h4⟩
theorem DiskF.below (h : DiskF W ok v d) (hb : Below W.heap.size W W1) : DiskF W1 ok v d := by
  obtain ⟨A0, c0, A1, c1, e, h1, h2, h3, h4⟩ := h
  exact ⟨A0, c0, A1, c1, e, h1, h2, Kd.F_below h3 hb, Kd.F_below h4 hb⟩
theorem DiskF.mono (h : DiskF W ok v d) (hk : ∀ k, ok k → ok' k) : DiskF W ok' v d := by
  obtain ⟨A0, c0, A1, c1, e, h1, h2, h3, h4⟩ := h
  exact ⟨A0, c0, A1, c1, e, h1, h2, Kd.F_mono h3 hk, Kd.F_mono h4 hk⟩
theorem DiskF.bound (h : DiskF W ok v d) : DiskF W (fun k => ok k ∧ k < W.heap.size) v d := by
  obtain ⟨A0, c0, A1, c1, e, h1, h2, h3, h4⟩ := h
  exact ⟨A0, c0, A1, c1, e, h1, h2, Kd.F_bound h3, Kd.F_bound h4⟩
theorem DiskF.far (h : DiskF W ok v d) {p : Addr} (hk : ∀ k, ok k → k ≠ p.block) (u : Value) : DiskF (W.setCell p u) ok v d := by
  obtain ⟨A0, c0, A1, c1, e, h1, h2, h3, h4⟩ := h
  exact ⟨A0, c0, A1, c1, e, h1, h2, Kd.F_far h3 hk u, Kd.F_far h4 hk u⟩
theorem diskF_zero (W : World) (ok : Nat → Prop) : DiskF W ok (.agg #[.slice none 0 0, .slice none 0 0, .int .i64 0, .bool false]) zeroD := ⟨none, 0, none, 0, rfl, Nat.le_refl _, Nat.le_refl _, Kd.F_nil _ _ _, Kd.F_nil _ _ _⟩
end
/-- a result: a disk and an error, and where the disk lies -/
def DEndsF (okd : Nat → Prop) (w : World) (r : Dk × Int) (e : Ending) (w' : World) : Prop := (∃ v, e = .returned (.tuple #[v, .int .i64 r.2]) ∧ DiskF w' (fun k => okd k ∨ w.heap.size ≤ k) v r.1) ∧ Below w.heap.size w w'
/-- what lies apart from the boxes of a function that holds a disk and makes one -/
def apartO (okd : Nat → Prop) (w : World) (k : Nat) : Prop := (okd k ∧ k < w.heap.size) ∨ w.heap.size + 1 < k
theorem apartO.new {okd : Nat → Prop} {w W : World} (h : w.heap.size + 1 < W.heap.size) (k : Nat) (hk : W.heap.size ≤ k) : apartO okd w k := .inr (by omega)
theorem apartO.ne1 {okd : Nat → Prop} {w : World} (k : Nat) (h : apartO okd w k) : k ≠ w.heap.size := by rcases h with h | h <;> omega
theorem apartO.ne2 {okd : Nat → Prop} {w : World} (k : Nat) (h : apartO okd w k) : k ≠ w.heap.size + 1 := by rcases h with h | h <;> omega
theorem apartO.out {okd : Nat → Prop} {w : World} (k : Nat) (h : apartO okd w k) : okd k ∨ w.heap.size ≤ k := by rcases h with h | h; exact .inl h.1; exact .inr (by omega)
set_option maxHeartbeats 8000000 in
set_option maxRecDepth 100000 in
theorem writeF_bad (v v2 : Value) (d : Dk) (a : Int) (b : List Int) (w : World) (okd : Nat → Prop) (h : DiskF w okd v d) (h2 : BytesV w v2 b) (hbad : ¬ (runsD d = true ∧ hasD d a = true)) : Calls Try.prog 26 #[v, .int .i64 a, v2] w (DEndsF okd w (writeD d a b)) := by
  obtain ⟨Ab, cb, rfl, hcb, hCb⟩ := h2
  have hd := h.V
  obtain ⟨A0, c0, A1, c1, rfl, h0, h1, hC0, hC1⟩ := h
  have S2 := Aside0.mk (WS.new w #[.slice A0 d.s.length c0, .slice A1 d.p.length c1, .int .i64 d.left, .bool d.st] #[.slice none 0 0, .slice none 0 0, .int .i64 0, .bool false])
  have D2 := Aside0.mk (hd.below S2.out.b)
  have HC0 := Aside0.mk hC0
  have HC1 := Aside0.mk hC1
  have HL := Aside0.mk (And.intro h0 h1)
  have hu25 := Try.underlying25
  clear hd h0 h1 hC0 hC1
  have HE := Aside0.mk (show writeD d a b = (zeroD, 450) from by unfold writeD; rw [if_pos hbad])
  cases hr : runsD d with
  | false =>
    have HR := Aside0.mk hr
    clear hr hbad
    go_enter Try.func26, Try.ntmps26
    go_wp2_with (go_at_call 57; (refine (runs_says _ d _ D2.out).mono ?_); rintro e w1 ⟨he, hb⟩; rw [HR.out] at he; obtain rfl := he; have S3 := Aside0.mk (S2.out.step hb); have D3 := Aside0.mk (D2.out.below hb); clear hb; have v1z0 := (blk_cell S3.out.v1 0).trans rfl; have v1f0 := blk_frozen S3.out.v1 0; have v2z0 := (blk_cell S3.out.v2 0).trans rfl; have v2f0 := blk_frozen S3.out.v2 0; have v1z1 := (blk_cell S3.out.v1 1).trans rfl; have v1f1 := blk_frozen S3.out.v1 1; have v2z1 := (blk_cell S3.out.v2 1).trans rfl; have v2f1 := blk_frozen S3.out.v2 1; have v1z2 := (blk_cell S3.out.v1 2).trans rfl; have v1f2 := blk_frozen S3.out.v1 2; have v2z2 := (blk_cell S3.out.v2 2).trans rfl; have v2f2 := blk_frozen S3.out.v2 2; have v1z3 := (blk_cell S3.out.v1 3).trans rfl; have v1f3 := blk_frozen S3.out.v1 3; have v2z3 := (blk_cell S3.out.v2 3).trans rfl; have v2f3 := blk_frozen S3.out.v2 3)
    have E := (((S3.out.set2 0 (.slice none 0 0)).set2 1 (.slice none 0 0)).set2 2 (.int .i64 0)).set2 3 (.bool false)
    refine bodyPost_ret (results_ct rfl _ _ (w.heap.size + 1) 25 #[.slice none 0 0, .slice none 0 0, .int .i64 0, .bool false] (0, 0) _ rfl E.v2 hu25 rfl info25') rfl ?_
    exact ⟨⟨_, by rw [HE.out]; rfl, by rw [HE.out]; exact diskF_zero _ _⟩, E.b⟩
  | true =>
    have HR := Aside0.mk hr
    have HH := Aside0.mk (show hasD d a = false from by rw [hr] at hbad; cases hh : hasD d a with | true => exact absurd ⟨rfl, hh⟩ hbad | false => rfl)
    clear hr hbad
    go_enter Try.func26, Try.ntmps26
    go_wp2_with (first | (go_at_call 57; (refine (runs_says _ d _ D2.out).mono ?_); rintro e w1 ⟨he, hb⟩; rw [HR.out] at he; obtain rfl := he; have S3 := Aside0.mk (S2.out.step hb); have D3 := Aside0.mk (D2.out.below hb); clear hb; have v1z0 := (blk_cell S3.out.v1 0).trans rfl; have v1f0 := blk_frozen S3.out.v1 0; have v2z0 := (blk_cell S3.out.v2 0).trans rfl; have v2f0 := blk_frozen S3.out.v2 0; have v1z1 := (blk_cell S3.out.v1 1).trans rfl; have v1f1 := blk_frozen S3.out.v1 1; have v2z1 := (blk_cell S3.out.v2 1).trans rfl; have v2f1 := blk_frozen S3.out.v2 1; have v1z2 := (blk_cell S3.out.v1 2).trans rfl; have v1f2 := blk_frozen S3.out.v1 2; have v2z2 := (blk_cell S3.out.v2 2).trans rfl; have v2f2 := blk_frozen S3.out.v2 2; have v1z3 := (blk_cell S3.out.v1 3).trans rfl; have v1f3 := blk_frozen S3.out.v1 3; have v2z3 := (blk_cell S3.out.v2 3).trans rfl; have v2f3 := blk_frozen S3.out.v2 3) | (go_at_call 58; (refine (has_says _ d a _ D3.out).mono ?_); rintro e w2 ⟨he, hb⟩; rw [HH.out] at he; obtain rfl := he; have S4 := Aside0.mk (S3.out.step hb); clear v1z0 v1f0 v2z0 v2f0 v1z1 v1f1 v2z1 v2f1 v1z2 v1f2 v2z2 v2f2 v1z3 v1f3 v2z3 v2f3; have v1z0 := (blk_cell S4.out.v1 0).trans rfl; have v1f0 := blk_frozen S4.out.v1 0; have v2z0 := (blk_cell S4.out.v2 0).trans rfl; have v2f0 := blk_frozen S4.out.v2 0; have v1z1 := (blk_cell S4.out.v1 1).trans rfl; have v1f1 := blk_frozen S4.out.v1 1; have v2z1 := (blk_cell S4.out.v2 1).trans rfl; have v2f1 := blk_frozen S4.out.v2 1; have v1z2 := (blk_cell S4.out.v1 2).trans rfl; have v1f2 := blk_frozen S4.out.v1 2; have v2z2 := (blk_cell S4.out.v2 2).trans rfl; have v2f2 := blk_frozen S4.out.v2 2; have v1z3 := (blk_cell S4.out.v1 3).trans rfl; have v1f3 := blk_frozen S4.out.v1 3; have v2z3 := (blk_cell S4.out.v2 3).trans rfl; have v2f3 := blk_frozen S4.out.v2 3; clear hb))
    have E := (((S4.out.set2 0 (.slice none 0 0)).set2 1 (.slice none 0 0)).set2 2 (.int .i64 0)).set2 3 (.bool false)
    refine bodyPost_ret (results_ct rfl _ _ (w.heap.size + 1) 25 #[.slice none 0 0, .slice none 0 0, .int .i64 0, .bool false] (0, 0) _ rfl E.v2 hu25 rfl info25') rfl ?_
    exact ⟨⟨_, by rw [HE.out]; rfl, by rw [HE.out]; exact diskF_zero _ _⟩, E.b⟩
set_option maxHeartbeats 8000000 in
set_option maxRecDepth 100000 in
theorem writeF_long (v v2 : Value) (d : Dk) (a : Int) (b : List Int) (w : World) (okd : Nat → Prop) (h : DiskF w okd v d) (h2 : BytesV w v2 b) (hr : runsD d = true) (hh : hasD d a = true) (hl : 128 < b.length) : Calls Try.prog 26 #[v, .int .i64 a, v2] w (DEndsF okd w (writeD d a b)) := by
  obtain ⟨Ab, cb, rfl, hcb, hCb⟩ := h2
  have hd := h.V
  obtain ⟨A0, c0, A1, c1, rfl, h0, h1, hC0, hC1⟩ := h
  have S2 := Aside0.mk (WS.new w #[.slice A0 d.s.length c0, .slice A1 d.p.length c1, .int .i64 d.left, .bool d.st] #[.slice none 0 0, .slice none 0 0, .int .i64 0, .bool false])
  have D2 := Aside0.mk (hd.below S2.out.b)
  have HC0 := Aside0.mk hC0
  have HC1 := Aside0.mk hC1
  have HL := Aside0.mk (And.intro h0 h1)
  have hu25 := Try.underlying25
  clear hd h0 h1 hC0 hC1
  have HE := Aside0.mk (show writeD d a b = (zeroD, 1) from by unfold writeD; rw [if_neg (fun hn => hn ⟨hr, hh⟩), if_pos hl])
  have HR := Aside0.mk hr
  have HH := Aside0.mk hh
  have q1 : decide ((128 : Int) < (b.length : Int)) = true := decide_eq_true (by omega)
  clear hr hh hl
  go_enter Try.func26, Try.ntmps26
  go_wp2_with (first | (go_at_call 57; (refine (runs_says _ d _ D2.out).mono ?_); rintro e w1 ⟨he, hb⟩; rw [HR.out] at he; obtain rfl := he; have S3 := Aside0.mk (S2.out.step hb); have D3 := Aside0.mk (D2.out.below hb); clear hb; have v1z0 := (blk_cell S3.out.v1 0).trans rfl; have v1f0 := blk_frozen S3.out.v1 0; have v2z0 := (blk_cell S3.out.v2 0).trans rfl; have v2f0 := blk_frozen S3.out.v2 0; have v1z1 := (blk_cell S3.out.v1 1).trans rfl; have v1f1 := blk_frozen S3.out.v1 1; have v2z1 := (blk_cell S3.out.v2 1).trans rfl; have v2f1 := blk_frozen S3.out.v2 1; have v1z2 := (blk_cell S3.out.v1 2).trans rfl; have v1f2 := blk_frozen S3.out.v1 2; have v2z2 := (blk_cell S3.out.v2 2).trans rfl; have v2f2 := blk_frozen S3.out.v2 2; have v1z3 := (blk_cell S3.out.v1 3).trans rfl; have v1f3 := blk_frozen S3.out.v1 3; have v2z3 := (blk_cell S3.out.v2 3).trans rfl; have v2f3 := blk_frozen S3.out.v2 3) | (go_at_call 58; (refine (has_says _ d a _ D3.out).mono ?_); rintro e w2 ⟨he, hb⟩; rw [HH.out] at he; obtain rfl := he; have S4 := Aside0.mk (S3.out.step hb); clear v1z0 v1f0 v2z0 v2f0 v1z1 v1f1 v2z1 v2f1 v1z2 v1f2 v2z2 v2f2 v1z3 v1f3 v2z3 v2f3; have v1z0 := (blk_cell S4.out.v1 0).trans rfl; have v1f0 := blk_frozen S4.out.v1 0; have v2z0 := (blk_cell S4.out.v2 0).trans rfl; have v2f0 := blk_frozen S4.out.v2 0; have v1z1 := (blk_cell S4.out.v1 1).trans rfl; have v1f1 := blk_frozen S4.out.v1 1; have v2z1 := (blk_cell S4.out.v2 1).trans rfl; have v2f1 := blk_frozen S4.out.v2 1; have v1z2 := (blk_cell S4.out.v1 2).trans rfl; have v1f2 := blk_frozen S4.out.v1 2; have v2z2 := (blk_cell S4.out.v2 2).trans rfl; have v2f2 := blk_frozen S4.out.v2 2; have v1z3 := (blk_cell S4.out.v1 3).trans rfl; have v1f3 := blk_frozen S4.out.v1 3; have v2z3 := (blk_cell S4.out.v2 3).trans rfl; have v2f3 := blk_frozen S4.out.v2 3; clear hb))
  have E := (((S4.out.set2 0 (.slice none 0 0)).set2 1 (.slice none 0 0)).set2 2 (.int .i64 0)).set2 3 (.bool false)
  refine bodyPost_ret (results_ct rfl _ _ (w.heap.size + 1) 25 #[.slice none 0 0, .slice none 0 0, .int .i64 0, .bool false] (0, 0) _ rfl E.v2 hu25 rfl info25') rfl ?_
  exact ⟨⟨_, by rw [HE.out]; rfl, by rw [HE.out]; exact diskF_zero _ _⟩, E.b⟩
set_option maxHeartbeats 8000000 in
set_option maxRecDepth 100000 in
theorem writeF_full (v v2 : Value) (d : Dk) (a : Int) (b : List Int) (w : World) (okd : Nat → Prop) (h : DiskF w okd v d) (h2 : BytesV w v2 b) (hr : runsD d = true) (hh : hasD d a = true) (hl : ¬ 128 < b.length) (hp : d.p.length = 4096) : Calls Try.prog 26 #[v, .int .i64 a, v2] w (DEndsF okd w (writeD d a b)) := by
  obtain ⟨Ab, cb, rfl, hcb, hCb⟩ := h2
  have hd := h.V
  obtain ⟨A0, c0, A1, c1, rfl, h0, h1, hC0, hC1⟩ := h
  have S2 := Aside0.mk (WS.new w #[.slice A0 d.s.length c0, .slice A1 d.p.length c1, .int .i64 d.left, .bool d.st] #[.slice none 0 0, .slice none 0 0, .int .i64 0, .bool false])
  have D2 := Aside0.mk (hd.below S2.out.b)
  have HC0 := Aside0.mk hC0
  have HC1 := Aside0.mk hC1
  have HL := Aside0.mk (And.intro h0 h1)
  have hu25 := Try.underlying25
  clear hd h0 h1 hC0 hC1
  have HE := Aside0.mk (show writeD d a b = (zeroD, 2) from by unfold writeD; rw [if_neg (fun hn => hn ⟨hr, hh⟩), if_neg hl, if_pos hp])
  have HR := Aside0.mk hr
  have HH := Aside0.mk hh
  have q1 : decide ((128 : Int) < (b.length : Int)) = false := decide_eq_false (by omega)
  have q2 : ((d.p.length : Int) == 4096) = true := beq_iff_eq.mpr (by omega)
  clear hr hh hl hp
  go_enter Try.func26, Try.ntmps26
  go_wp2_with (first | (go_at_call 57; (refine (runs_says _ d _ D2.out).mono ?_); rintro e w1 ⟨he, hb⟩; rw [HR.out] at he; obtain rfl := he; have S3 := Aside0.mk (S2.out.step hb); have D3 := Aside0.mk (D2.out.below hb); clear hb; have v1z0 := (blk_cell S3.out.v1 0).trans rfl; have v1f0 := blk_frozen S3.out.v1 0; have v2z0 := (blk_cell S3.out.v2 0).trans rfl; have v2f0 := blk_frozen S3.out.v2 0; have v1z1 := (blk_cell S3.out.v1 1).trans rfl; have v1f1 := blk_frozen S3.out.v1 1; have v2z1 := (blk_cell S3.out.v2 1).trans rfl; have v2f1 := blk_frozen S3.out.v2 1; have v1z2 := (blk_cell S3.out.v1 2).trans rfl; have v1f2 := blk_frozen S3.out.v1 2; have v2z2 := (blk_cell S3.out.v2 2).trans rfl; have v2f2 := blk_frozen S3.out.v2 2; have v1z3 := (blk_cell S3.out.v1 3).trans rfl; have v1f3 := blk_frozen S3.out.v1 3; have v2z3 := (blk_cell S3.out.v2 3).trans rfl; have v2f3 := blk_frozen S3.out.v2 3) | (go_at_call 58; (refine (has_says _ d a _ D3.out).mono ?_); rintro e w2 ⟨he, hb⟩; rw [HH.out] at he; obtain rfl := he; have S4 := Aside0.mk (S3.out.step hb); clear v1z0 v1f0 v2z0 v2f0 v1z1 v1f1 v2z1 v2f1 v1z2 v1f2 v2z2 v2f2 v1z3 v1f3 v2z3 v2f3; have v1z0 := (blk_cell S4.out.v1 0).trans rfl; have v1f0 := blk_frozen S4.out.v1 0; have v2z0 := (blk_cell S4.out.v2 0).trans rfl; have v2f0 := blk_frozen S4.out.v2 0; have v1z1 := (blk_cell S4.out.v1 1).trans rfl; have v1f1 := blk_frozen S4.out.v1 1; have v2z1 := (blk_cell S4.out.v2 1).trans rfl; have v2f1 := blk_frozen S4.out.v2 1; have v1z2 := (blk_cell S4.out.v1 2).trans rfl; have v1f2 := blk_frozen S4.out.v1 2; have v2z2 := (blk_cell S4.out.v2 2).trans rfl; have v2f2 := blk_frozen S4.out.v2 2; have v1z3 := (blk_cell S4.out.v1 3).trans rfl; have v1f3 := blk_frozen S4.out.v1 3; have v2z3 := (blk_cell S4.out.v2 3).trans rfl; have v2f3 := blk_frozen S4.out.v2 3; clear hb))
  have E := (((S4.out.set2 0 (.slice none 0 0)).set2 1 (.slice none 0 0)).set2 2 (.int .i64 0)).set2 3 (.bool false)
  refine bodyPost_ret (results_ct rfl _ _ (w.heap.size + 1) 25 #[.slice none 0 0, .slice none 0 0, .int .i64 0, .bool false] (0, 0) _ rfl E.v2 hu25 rfl info25') rfl ?_
  exact ⟨⟨_, by rw [HE.out]; rfl, by rw [HE.out]; exact diskF_zero _ _⟩, E.b⟩
set_option maxHeartbeats 8000000 in
set_option maxRecDepth 100000 in
theorem writeF_good (v v2 : Value) (d : Dk) (a : Int) (b : List Int) (w : World) (okd : Nat → Prop) (h : DiskF w okd v d) (h2 : BytesV w v2 b) (hr : runsD d = true) (hh : hasD d a = true) (hl : ¬ 128 < b.length) (hp : ¬ d.p.length = 4096) : Calls Try.prog 26 #[v, .int .i64 a, v2] w (DEndsF okd w (writeD d a b)) := by
  obtain ⟨Ab, cb, rfl, hcb, hCb⟩ := h2
  have hd := h.V
  obtain ⟨A0, c0, A1, c1, rfl, h0, h1, hC0, hC1⟩ := h
  have S2 := Aside0.mk (WS.new w #[.slice A0 d.s.length c0, .slice A1 d.p.length c1, .int .i64 d.left, .bool d.st] #[.slice none 0 0, .slice none 0 0, .int .i64 0, .bool false])
  have D2 := Aside0.mk (hd.below S2.out.b)
  have HC0 := Aside0.mk hC0
  have HC1 := Aside0.mk hC1
  have HL := Aside0.mk (And.intro h0 h1)
  have hu25 := Try.underlying25
  clear hd h0 h1 hC0 hC1
  have HCB := Aside0.mk hCb
  have HE := Aside0.mk (show writeD d a b = (⟨d.s, d.p ++ [⟨a, pad b⟩], d.left, d.st⟩, 0) from by unfold writeD; rw [if_neg (fun hn => hn ⟨hr, hh⟩), if_neg hl, if_neg hp])
  have HR := Aside0.mk hr
  have HH := Aside0.mk hh
  have q1 : decide ((128 : Int) < (b.length : Int)) = false := decide_eq_false (by omega)
  have q2 : ((d.p.length : Int) == 4096) = false := beq_eq_false_iff_ne.mpr (by omega)
  have HBL := Aside0.mk (show b.length ≤ 128 by omega)
  have HPL := Aside0.mk (show d.p.length ≤ 4096 by
    have h1 := hr
    unfold runsD okD numsD at h1
    simp at h1
    omega)
  obtain ⟨zs, hzs⟩ : ∃ zs, Aside0 (zs = zeros 128) := ⟨_, ⟨rfl⟩⟩
  have hmk : ∀ W : World, (Instr.makeSlice 35 (.int .i64 128) (.int .i64 128)).run Try.prog W = .ok (.slice (some ⟨W.heap.size, 0, none⟩) 128 128) (W.alloc (.cells (nums .u8 zs).toArray 5)) := fun W => by
    rw [hzs.out, show nums .u8 (zeros 128) = List.replicate 128 (.int .u8 0) by simp [nums, zeros], ← made_row]
    exact run_make_row' 35 5 (.int .u8 0) 1 Try.underlying35 info5 rfl .i64 .i64 128 (by decide) (by decide) W
  clear hr hh hl hp hcb hCb
  go_enter Try.func26, Try.ntmps26
  go_upto_region 8 with (first | (go_at_call 57; (refine (runs_says _ d _ D2.out).mono ?_); rintro e w1 ⟨he, hb⟩; rw [HR.out] at he; obtain rfl := he; have S3 := Aside0.mk (S2.out.step hb); have D3 := Aside0.mk (D2.out.below hb); clear hb; have v1z0 := (blk_cell S3.out.v1 0).trans rfl; have v1f0 := blk_frozen S3.out.v1 0; have v2z0 := (blk_cell S3.out.v2 0).trans rfl; have v2f0 := blk_frozen S3.out.v2 0; have v1z1 := (blk_cell S3.out.v1 1).trans rfl; have v1f1 := blk_frozen S3.out.v1 1; have v2z1 := (blk_cell S3.out.v2 1).trans rfl; have v2f1 := blk_frozen S3.out.v2 1; have v1z2 := (blk_cell S3.out.v1 2).trans rfl; have v1f2 := blk_frozen S3.out.v1 2; have v2z2 := (blk_cell S3.out.v2 2).trans rfl; have v2f2 := blk_frozen S3.out.v2 2; have v1z3 := (blk_cell S3.out.v1 3).trans rfl; have v1f3 := blk_frozen S3.out.v1 3; have v2z3 := (blk_cell S3.out.v2 3).trans rfl; have v2f3 := blk_frozen S3.out.v2 3) | (go_at_call 58; (refine (has_says _ d a _ D3.out).mono ?_); rintro e w2 ⟨he, hb⟩; rw [HH.out] at he; obtain rfl := he; have S4 := Aside0.mk (S3.out.step hb); clear v1z0 v1f0 v2z0 v2f0 v1z1 v1f1 v2z1 v2f1 v1z2 v1f2 v2z2 v2f2 v1z3 v1f3 v2z3 v2f3; have v1z0 := (blk_cell S4.out.v1 0).trans rfl; have v1f0 := blk_frozen S4.out.v1 0; have v2z0 := (blk_cell S4.out.v2 0).trans rfl; have v2f0 := blk_frozen S4.out.v2 0; have v1z1 := (blk_cell S4.out.v1 1).trans rfl; have v1f1 := blk_frozen S4.out.v1 1; have v2z1 := (blk_cell S4.out.v2 1).trans rfl; have v2f1 := blk_frozen S4.out.v2 1; have v1z2 := (blk_cell S4.out.v1 2).trans rfl; have v1f2 := blk_frozen S4.out.v1 2; have v2z2 := (blk_cell S4.out.v2 2).trans rfl; have v2f2 := blk_frozen S4.out.v2 2; have v1z3 := (blk_cell S4.out.v1 3).trans rfl; have v1f3 := blk_frozen S4.out.v1 3; have v2z3 := (blk_cell S4.out.v2 3).trans rfl; have v2f3 := blk_frozen S4.out.v2 3; clear hb))
  have S5 := Aside0.mk (S4.out.alloc (.cells (nums .u8 zs).toArray 5))
  have Z5 := Aside0.mk (blk_new w2 (.cells (nums .u8 zs).toArray 5))
  have HGB := Aside0.mk (blk_lt S4.out.v2)
  clear S2 S3 S4 D2 D3; clear v1z0 v1f0 v2z0 v2f0 v1z1 v1f1 v2z1 v2f1 v1z2 v1f2 v2z2 v2f2 v1z3 v1f3 v2z3 v2f3
  generalize w2.alloc (.cells (nums .u8 zs).toArray 5) = w3 at *
  generalize w2.heap.size = gb at *
  go_upto_region 9 with ((with_reducible refine gate_builtin (b := .copy) (xs := #[.tmp 32, .tmp 33]) rfl ?_); refine wpList_copy_splice rfl (.tmp 32) (.tmp 33) 35 35 rfl 5 Try.underlying35 info5s (some ⟨gb, 0, none⟩) Ab 128 128 b.length cb rfl rfl gb 0 (nums .u8 zs) 5 Z5.out (nums .u8 b) ?cn ?cp ?cf ?c1 gb w3 (Below.refl _ _) (Nat.le_refl _) ?_; (case cn => rw [nums_length]; exact (Nat.min_eq_left HBL.out).symm); (case cp => intro hp; exact ⟨rfl, int_cells (Kd.C_below HCB.out S5.out.b) hp⟩); (case cf => rw [nums_length, nums_length, hzs.out, zeros_len, Nat.zero_add]; exact HBL.out); (case c1 => exact nums_one b); intro w4 hg4 hb4; have S6 := Aside0.mk (S5.out.stepB hb4 HGB.out); have Z6 := Aside0.mk (show w4.heap[gb]? = some (.cells (nums .u8 (pad b)).toArray 5 (0, 0)) from by rw [← pad_splice, ← hzs.out]; exact hg4.out); clear hg4 hb4 S5 Z5)
  have v1z0 := (blk_cell S6.out.v1 0).trans rfl; have v1f0 := blk_frozen S6.out.v1 0; have v2z0 := (blk_cell S6.out.v2 0).trans rfl; have v2f0 := blk_frozen S6.out.v2 0; have v1z1 := (blk_cell S6.out.v1 1).trans rfl; have v1f1 := blk_frozen S6.out.v1 1; have v2z1 := (blk_cell S6.out.v2 1).trans rfl; have v2f1 := blk_frozen S6.out.v2 1; have v1z2 := (blk_cell S6.out.v1 2).trans rfl; have v1f2 := blk_frozen S6.out.v1 2; have v2z2 := (blk_cell S6.out.v2 2).trans rfl; have v2f2 := blk_frozen S6.out.v2 2; have v1z3 := (blk_cell S6.out.v1 3).trans rfl; have v1f3 := blk_frozen S6.out.v1 3; have v2z3 := (blk_cell S6.out.v2 3).trans rfl; have v2f3 := blk_frozen S6.out.v2 3
  have HPK := Aside0.mk (pad_len b HBL.out)
  have HPB := Aside0.mk (show Value.oneCell' (.int .i64 a) = true from rfl)
  go_wp2_with (first | (go_at_call 60; (refine (clone76_says A1 c1 d.p _ (apartO okd w) (Kd.F_mono (Kd.F_below (Kd.F_bound HC1.out) S6.out.b) (fun k hk => .inl hk)) (by have := HPL.out; omega)).mono ?_); rintro e w5 ⟨⟨vp, rfl, hn⟩, hb⟩; have hn2 := Kd.N_mono hn (ok' := apartO okd w) (fun k hk => hk.elim id (apartO.new S6.out.lt k)); obtain ⟨Ap, cp, rfl, hcp, -⟩ := Kd.N_reads hn2; have hCp := Kd.N_F hn2; have S7 := Aside0.mk (S6.out.step hb); have Z7 := Aside0.mk (blk_below Z6.out hb); have HCp := Aside0.mk hCp; have HCC := Aside0.mk hcp; clear v1z0 v1f0 v2z0 v2f0 v1z1 v1f1 v2z1 v2f1 v1z2 v1f2 v2z2 v2f2 v1z3 v1f3 v2z3 v2f3; clear hb hn hn2 hCp hcp S6 Z6) | (go_at_call 59; (refine (clip76_says Ap _ cp _ HCC.out (by have := HPL.out; omega)).mono ?_); rintro e w6 ⟨rfl, rfl⟩) | ((with_reducible refine gate_builtin (b := .append) (xs := #[.tmp 38, .tmp 42]) rfl ?_); refine wp_append_full k76 rfl (.tmp 38) (.tmp 42) 23 76 (.agg #[(.int .i64 0), (.slice none 0 0)]) 32 rfl Try.underlying23 info76 rfl (by decide) (by decide) Ap d.p.length d.p ⟨a, pad b⟩ [.int .i64 a, .slice (some ⟨gb, 0, none⟩) 128 128] (apartO okd w) rfl HCp.out rfl (show Kd.FK k76 _ (apartO okd w) ⟨a, pad b⟩ [.int .i64 a, .slice (some ⟨gb, 0, none⟩) 128 128] from by have h_ := k76_mkF w5 (apartO okd w) ⟨a, pad b⟩ (A1 := some ⟨gb, 0, none⟩) (c1 := 128) (by rw [HPK.out]; exact Nat.le_refl _) (bytes_F Z7.out (.inr HGB.out) (by rw [HPK.out]; decide)); rw [HPK.out] at h_; exact h_) (apartO.new S7.out.lt) (by have := HPL.out; omega) ?_; intro v' w7 hN' hb'; obtain ⟨A', c', hv', hc', -⟩ := Kd.N_reads hN'; rw [show (d.p ++ [(⟨a, pad b⟩ : S76)]).length = d.p.length + 1 from List.length_append] at hv' hc'; subst hv'; have S8 := Aside0.mk (S7.out.step hb'); have N8 := Aside0.mk hN'; have HCC8 := Aside0.mk hc'; clear hc' hN' hb' S7 Z7; have v1z0 := (blk_cell S8.out.v1 0).trans rfl; have v1f0 := blk_frozen S8.out.v1 0; have v2z0 := (blk_cell S8.out.v2 0).trans rfl; have v2f0 := blk_frozen S8.out.v2 0; have v1z1 := (blk_cell S8.out.v1 1).trans rfl; have v1f1 := blk_frozen S8.out.v1 1; have v2z1 := (blk_cell S8.out.v2 1).trans rfl; have v2f1 := blk_frozen S8.out.v2 1; have v1z2 := (blk_cell S8.out.v1 2).trans rfl; have v1f2 := blk_frozen S8.out.v1 2; have v2z2 := (blk_cell S8.out.v2 2).trans rfl; have v2f2 := blk_frozen S8.out.v2 2; have v1z3 := (blk_cell S8.out.v1 3).trans rfl; have v1f3 := blk_frozen S8.out.v1 3; have v2z3 := (blk_cell S8.out.v2 3).trans rfl; have v2f3 := blk_frozen S8.out.v2 3))
  have E := (((((S8.out.set1 1 (.slice A' (d.p.length + 1) c')).set2 0 (.slice A0 d.s.length c0)).set2 1 (.slice A' (d.p.length + 1) c')).set2 2 (.int .i64 d.left)).set2 3 (.bool d.st))

  have NE := Kd.N_far (p := ⟨w.heap.size + 1, 3, none⟩) (Kd.N_far (p := ⟨w.heap.size + 1, 2, none⟩) (Kd.N_far (p := ⟨w.heap.size + 1, 1, none⟩) (Kd.N_far (p := ⟨w.heap.size + 1, 0, none⟩) (Kd.N_far (p := ⟨w.heap.size, 1, none⟩) N8.out apartO.ne1 (.slice A' (d.p.length + 1) c')) apartO.ne2 (.slice A0 d.s.length c0)) apartO.ne2 (.slice A' (d.p.length + 1) c')) apartO.ne2 (.int .i64 d.left)) apartO.ne2 (.bool d.st)
  refine bodyPost_ret (results_ct rfl _ _ (w.heap.size + 1) 25 #[.slice A0 d.s.length c0, .slice A' (d.p.length + 1) c', .int .i64 d.left, .bool d.st] (0, 0) _ rfl E.v2 hu25 rfl info25') rfl ?_
  refine ⟨⟨_, by rw [HE.out]; rfl, ?_⟩, E.b⟩
  rw [HE.out]
  have hlen : (d.p ++ [(⟨a, pad b⟩ : S76)]).length = d.p.length + 1 := List.length_append
  exact ⟨A0, c0, A', c', by rw [hlen], HL.out.1, by rw [hlen]; exact HCC8.out, Kd.F_mono (Kd.F_below HC0.out E.b) (fun k hk => .inl hk), by rw [hlen]; exact Kd.F_mono (Kd.N_F NE) (fun k hk => apartO.out k hk)⟩
theorem writeF_says (okd : Nat → Prop) (v v2 : Value) (d : Dk) (a : Int) (b : List Int) (w : World) (h : DiskF w okd v d) (h2 : BytesV w v2 b) : Calls Try.prog 26 #[v, .int .i64 a, v2] w (DEndsF okd w (writeD d a b)) := by
  by_cases hr : runsD d = true ∧ hasD d a = true
  · by_cases hl : 128 < b.length
    · exact writeF_long v v2 d a b w okd h h2 hr.1 hr.2 hl
    · by_cases hp : d.p.length = 4096
      · exact writeF_full v v2 d a b w okd h h2 hr.1 hr.2 hl hp
      · exact writeF_good v v2 d a b w okd h h2 hr.1 hr.2 hl hp
  · exact writeF_bad v v2 d a b w okd h h2 hr
set_option maxHeartbeats 8000000 in
set_option maxRecDepth 100000 in
theorem restartF_says (okd : Nat → Prop) (v : Value) (d : Dk) (w : World) (h : DiskF w okd v d) : Calls Try.prog 24 #[v] w fun e w' => (∃ v', e = .returned v' ∧ DiskF w' (fun k => okd k ∨ w.heap.size ≤ k) v' (restartD d)) ∧ Below w.heap.size w w' := by
  obtain ⟨A0, c0, A1, c1, rfl, h0, h1, hC0, hC1⟩ := h
  have HC := Aside0.mk hC0
  have H0 := Aside0.mk h0
  have B2 := Aside0.mk (below_alloc (below_alloc (Below.refl w.heap.size w) (.cells #[.slice A0 d.s.length c0, .slice A1 d.p.length c1, .int .i64 d.left, .bool d.st] 25)) (.cells #[.slice none 0 0, .slice none 0 0, .int .i64 0, .bool false] 25))
  have V2 := Aside0.mk (blk_new (w.alloc (.cells #[.slice A0 d.s.length c0, .slice A1 d.p.length c1, .int .i64 d.left, .bool d.st] 25)) (.cells #[.slice none 0 0, .slice none 0 0, .int .i64 0, .bool false] 25))
  have hu25 := Try.underlying25
  clear h0 h1 hC0 hC1
  go_enter Try.func24, Try.ntmps24
  go_wp2
  have E := blk_new (w.alloc (.cells #[.slice A0 d.s.length c0, .slice A1 d.p.length c1, .int .i64 d.left, .bool d.st] 25)) (.cells #[.slice A0 d.s.length c0, .slice none 0 0, .int .i64 (-1), .bool false] 25)
  rw [show (w.alloc (.cells #[.slice A0 d.s.length c0, .slice A1 d.p.length c1, .int .i64 d.left, .bool d.st] 25)).heap.size = w.heap.size + 1 by simp] at E
  refine bodyPost_ret (results_cell_row rfl _ _ (w.heap.size + 1) 25 #[.slice A0 d.s.length c0, .slice none 0 0, .int .i64 (-1), .bool false] (0, 0) _ rfl E hu25 rfl info25') rfl ?_
  have B3 := below_alloc (below_alloc (Below.refl w.heap.size w) (.cells #[.slice A0 d.s.length c0, .slice A1 d.p.length c1, .int .i64 d.left, .bool d.st] 25)) (.cells #[.slice A0 d.s.length c0, .slice none 0 0, .int .i64 (-1), .bool false] 25)
  exact ⟨⟨_, rfl, ⟨_, _, _, _, rfl, H0.out, Nat.zero_le _, Kd.F_mono (Kd.F_below HC.out B3) (fun k hk => .inl hk), Kd.F_nil _ _ _⟩⟩, B3⟩
end Go.Proofs.Ytlnmjgkeiljniaa.Q
/- disk.Sync, with footprints. -/
namespace Go.Proofs.Ytlnmjgkeiljniaa.Q
open Go.RowKit Go.Proofs.YtlnmjgkeiljniaaW.PrintWords Go.Proofs.YtlnmjgkeiljniaaW.PrintLast Go.Proofs.YtlnmjgkeiljniaaW.PrintMore
set_option linter.unusedVariables false
set_option linter.unusedSimpArgs false
set_option maxHeartbeats 8000000 in
set_option maxRecDepth 100000 in
theorem syncF_bad (v : Value) (d : Dk) (w : World) (okd : Nat → Prop) (h : DiskF w okd v d) (hr : runsD d = false) : Calls Try.prog 30 #[v] w (DEndsF okd w (syncD d)) := by
  have hd := h.V
  obtain ⟨A0, c0, A1, c1, rfl, h0, h1, hC0, hC1⟩ := h
  have S2 := Aside0.mk (WS.new w #[.slice A0 d.s.length c0, .slice A1 d.p.length c1, .int .i64 d.left, .bool d.st] #[.slice none 0 0, .slice none 0 0, .int .i64 0, .bool false])
  have D2 := Aside0.mk (hd.below S2.out.b)
  have HC0 := Aside0.mk hC0
  have HC1 := Aside0.mk hC1
  have HL := Aside0.mk (And.intro h0 h1)
  have hu25 := Try.underlying25
  clear hd h0 h1 hC0 hC1
  have HE := Aside0.mk (show syncD d = (zeroD, 450) from by unfold syncD; rw [hr]; rfl)
  have HR := Aside0.mk hr
  clear hr
  go_enter Try.func30, Try.ntmps30
  go_wp2_with (go_at_call 57; (refine (runs_says _ d _ D2.out).mono ?_); rintro e w1 ⟨he, hb⟩; rw [HR.out] at he; obtain rfl := he; have S3 := Aside0.mk (S2.out.step hb); have D3 := Aside0.mk (D2.out.below hb); clear hb; have v1z0 := (blk_cell S3.out.v1 0).trans rfl; have v1f0 := blk_frozen S3.out.v1 0; have v2z0 := (blk_cell S3.out.v2 0).trans rfl; have v2f0 := blk_frozen S3.out.v2 0; have v1z1 := (blk_cell S3.out.v1 1).trans rfl; have v1f1 := blk_frozen S3.out.v1 1; have v2z1 := (blk_cell S3.out.v2 1).trans rfl; have v2f1 := blk_frozen S3.out.v2 1; have v1z2 := (blk_cell S3.out.v1 2).trans rfl; have v1f2 := blk_frozen S3.out.v1 2; have v2z2 := (blk_cell S3.out.v2 2).trans rfl; have v2f2 := blk_frozen S3.out.v2 2; have v1z3 := (blk_cell S3.out.v1 3).trans rfl; have v1f3 := blk_frozen S3.out.v1 3; have v2z3 := (blk_cell S3.out.v2 3).trans rfl; have v2f3 := blk_frozen S3.out.v2 3)
  have E := (((S3.out.set2 0 (.slice none 0 0)).set2 1 (.slice none 0 0)).set2 2 (.int .i64 0)).set2 3 (.bool false)
  refine bodyPost_ret (results_ct rfl _ _ (w.heap.size + 1) 25 #[.slice none 0 0, .slice none 0 0, .int .i64 0, .bool false] (0, 0) _ rfl E.v2 hu25 rfl info25') rfl ?_
  exact ⟨⟨_, by rw [HE.out]; rfl, by rw [HE.out]; exact diskF_zero _ _⟩, E.b⟩
set_option maxHeartbeats 8000000 in
set_option maxRecDepth 100000 in
theorem syncF_all (v : Value) (d : Dk) (w : World) (okd : Nat → Prop) (h : DiskF w okd v d) (hr : runsD d = true) (hl : ¬ (0 ≤ d.left ∧ d.left < d.p.length)) : Calls Try.prog 30 #[v] w (DEndsF okd w (syncD d)) := by
  have hd := h.V
  obtain ⟨A0, c0, A1, c1, rfl, h0, h1, hC0, hC1⟩ := h
  have S2 := Aside0.mk (WS.new w #[.slice A0 d.s.length c0, .slice A1 d.p.length c1, .int .i64 d.left, .bool d.st] #[.slice none 0 0, .slice none 0 0, .int .i64 0, .bool false])
  have D2 := Aside0.mk (hd.below S2.out.b)
  have HC0 := Aside0.mk hC0
  have HC1 := Aside0.mk hC1
  have HL := Aside0.mk (And.intro h0 h1)
  have hu25 := Try.underlying25
  clear hd h0 h1 hC0 hC1
  have HOK := Aside0.mk (runs_ok hr)
  have HE := Aside0.mk (show syncD d = (⟨performD d.s d.p, [], if 0 ≤ d.left then d.left - d.p.length else d.left, false⟩, 0) from by unfold syncD; rw [if_pos hr, if_neg hl])
  have HR := Aside0.mk hr
  have HLF := Aside0.mk hl
  clear hr hl
  cases q0 : decide (0 ≤ d.left) with
  | false =>
    have HQ := Aside0.mk q0
    have q1 : decide ((d.left : Int) < (d.p.length : Int)) = decide ((d.left : Int) < (d.p.length : Int)) := rfl
    clear q1
    go_enter Try.func30, Try.ntmps30
    go_upto_region 12 with (go_at_call 57; (refine (runs_says _ d _ D2.out).mono ?_); rintro e w1 ⟨he, hb⟩; rw [HR.out] at he; obtain rfl := he; have S3 := Aside0.mk (S2.out.step hb); have D3 := Aside0.mk (D2.out.below hb); clear hb; have v1z0 := (blk_cell S3.out.v1 0).trans rfl; have v1f0 := blk_frozen S3.out.v1 0; have v2z0 := (blk_cell S3.out.v2 0).trans rfl; have v2f0 := blk_frozen S3.out.v2 0; have v1z1 := (blk_cell S3.out.v1 1).trans rfl; have v1f1 := blk_frozen S3.out.v1 1; have v2z1 := (blk_cell S3.out.v2 1).trans rfl; have v2f1 := blk_frozen S3.out.v2 1; have v1z2 := (blk_cell S3.out.v1 2).trans rfl; have v1f2 := blk_frozen S3.out.v1 2; have v2z2 := (blk_cell S3.out.v2 2).trans rfl; have v2f2 := blk_frozen S3.out.v2 2; have v1z3 := (blk_cell S3.out.v1 3).trans rfl; have v1f3 := blk_frozen S3.out.v1 3; have v2z3 := (blk_cell S3.out.v2 3).trans rfl; have v2f3 := blk_frozen S3.out.v2 3)
    have S4 := Aside0.mk S3.out.drew
    clear v1z0 v1f0 v2z0 v2f0 v1z1 v1f1 v2z1 v2f1 v1z2 v1f2 v2z2 v2f2 v1z3 v1f3 v2z3 v2f3
    clear S2 S3 D2 D3
    refine start_ (n := 9) (S := fun w' => w'.cell? ⟨w.heap.size, 0, none⟩ = some (.slice A0 d.s.length c0) ∧ w'.cell? ⟨w.heap.size, 1, none⟩ = some (.slice A1 d.p.length c1) ∧ w'.cell? ⟨w.heap.size, 2, none⟩ = some (.int .i64 d.left)) (ds := [8]) #[false, false, false, false, false, false, false, false, false] (by kernel_rfl) rfl rfl ⟨(blk_cell S4.out.v1 0).trans rfl, (blk_cell S4.out.v1 1).trans rfl, (blk_cell S4.out.v1 2).trans rfl⟩ (fun hHeld => ?_)
    generalize w1.drew = w4 at *
    refine pure_ (i := 0) (N := some 61) (v := ?_) (a' := ?_) #[true, false, false, false, false, false, false, false, false] rfl rfl (by kernel_rfl) (fun _ _ _ h => h) (Or.inl ⟨by rfl, ?_⟩) ?_ ?_
    rotate_left
    · intro w'
      go_simp
      with_reducible rfl
    rotate_left
    · simp only [Act.put, List.setIfInBounds_toArray, List.set_cons_zero, List.set_cons_succ, i64_w, i32_w]
      rfl
    refine take_ (i := 1) (N := some 62) (v := ?_) (a' := ?_) #[true, true, false, false, false, false, false, false, false] rfl rfl (by kernel_rfl) (fun _ _ _ h => h) (Or.inl ⟨by rfl, ?_⟩) hHeld ?_ ?_
    rotate_left
    · rintro w' ⟨s0, s1, s2⟩
      go_simp
      with_reducible rfl
    rotate_left
    · simp only [Act.put, List.setIfInBounds_toArray, List.set_cons_zero, List.set_cons_succ, i64_w, i32_w]
      rfl
    refine pure_ (i := 2) (N := some 63) (v := ?_) (a' := ?_) #[true, true, true, false, false, false, false, false, false] rfl rfl (by kernel_rfl) (fun _ _ _ h => h) (Or.inl ⟨by rfl, ?_⟩) ?_ ?_
    rotate_left
    · intro w'
      go_simp
      with_reducible rfl
    rotate_left
    · simp only [Act.put, List.setIfInBounds_toArray, List.set_cons_zero, List.set_cons_succ, i64_w, i32_w]
      rfl
    refine take_ (i := 3) (N := some 64) (v := ?_) (a' := ?_) #[true, true, true, true, false, false, false, false, false] rfl rfl (by kernel_rfl) (fun _ _ _ h => h) (Or.inl ⟨by rfl, ?_⟩) hHeld ?_ ?_
    rotate_left
    · rintro w' ⟨s0, s1, s2⟩
      go_simp
      with_reducible rfl
    rotate_left
    · simp only [Act.put, List.setIfInBounds_toArray, List.set_cons_zero, List.set_cons_succ, i64_w, i32_w]
      rfl
    refine pure_ (i := 5) (N := some 66) (v := ?_) (a' := ?_) #[true, true, true, true, false, true, false, false, false] rfl rfl (by kernel_rfl) (fun _ _ _ h => h) (Or.inl ⟨by rfl, ?_⟩) ?_ ?_
    rotate_left
    · intro w'
      go_simp
      with_reducible rfl
    rotate_left
    · simp only [Act.put, List.setIfInBounds_toArray, List.set_cons_zero, List.set_cons_succ, i64_w, i32_w]
      rfl
    refine take_ (i := 6) (N := some 67) (v := ?_) (a' := ?_) #[true, true, true, true, false, true, true, false, false] rfl rfl (by kernel_rfl) (fun _ _ _ h => h) (Or.inl ⟨by rfl, ?_⟩) hHeld ?_ ?_
    rotate_left
    · rintro w' ⟨s0, s1, s2⟩
      go_simp
      with_reducible rfl
    rotate_left
    · simp only [Act.put, List.setIfInBounds_toArray, List.set_cons_zero, List.set_cons_succ, i64_w, i32_w]
      rfl
    refine one_ (i := 4) (N := some 65) #[true, true, true, true, true, true, true, false, false] rfl rfl (by kernel_rfl) (by decide) (fun K hK => ?_)
    refine goes_ Try.func62 (by kernel_rfl) rfl #[.slice A0 d.s.length c0, .slice A1 d.p.length c1] (by rfl) rfl rfl (by (try simp only [List.map_toArray, List.map_cons, List.map_nil]); first | done | rfl) ?_
    refine (perform_says A0 A1 c0 c1 d.s d.p _ (fun k => okd k ∧ k < w.heap.size) (Kd.F_below (Kd.F_bound HC0.out) S4.out.b) (Kd.F_below (Kd.F_bound HC1.out) S4.out.b) (fun x hx => ⟨(HOK.out.2.2.2.2.2.1 x hx).1, (HOK.out.2.2.2.2.2.1 x hx).2.1⟩) (by have := HOK.out.1; omega)).mono ?_
    rintro e w5 ⟨⟨vs, he, hn⟩, hb⟩
    obtain ⟨As, cs, hvs⟩ := Kd.N_slice hn
    rw [performD_len] at hvs
    subst hvs
    subst he
    refine ⟨_, rfl, ?_⟩
    have S5 := Aside0.mk (S4.out.step hb)
    have N5 := Aside0.mk (Kd.N_mono hn (ok' := apartO okd w) (fun k hk => hk.elim (fun h => .inl h) (apartO.new S4.out.lt k)))
    clear hn hb
    refine hK.out _ _ ⟨(blk_cell S5.out.v1 0).trans rfl, (blk_cell S5.out.v1 1).trans rfl, (blk_cell S5.out.v1 2).trans rfl⟩ (fun hHeld => ?_)
    clear hK K
    refine norm_ (a' := ?_) ?_ ?_
    rotate_left
    · show Act.put _ (some 65) _ = _
      simp only [Act.put, List.setIfInBounds_toArray, List.set_cons_zero, List.set_cons_succ, i64_w, i32_w]
      rfl
    refine pure_ (i := 7) (N := some 68) (v := ?_) (a' := ?_) #[true, true, true, true, true, true, true, true, false] rfl rfl (by kernel_rfl) (fun _ _ _ h => h) (Or.inl ⟨by rfl, ?_⟩) ?_ ?_
    rotate_left
    · intro w'
      go_simp
      with_reducible rfl
    rotate_left
    · simp only [Act.put, List.setIfInBounds_toArray, List.set_cons_zero, List.set_cons_succ, i64_w, i32_w]
      rfl
    refine last_ (i := 8) (N := none) #[true, true, true, true, true, true, true, true, true] rfl rfl (by kernel_rfl) (by decide) (fun K hK => ?_)
    have v1z0 := (blk_cell S5.out.v1 0).trans rfl; have v1f0 := blk_frozen S5.out.v1 0; have v2z0 := (blk_cell S5.out.v2 0).trans rfl; have v2f0 := blk_frozen S5.out.v2 0; have v1z1 := (blk_cell S5.out.v1 1).trans rfl; have v1f1 := blk_frozen S5.out.v1 1; have v2z1 := (blk_cell S5.out.v2 1).trans rfl; have v2f1 := blk_frozen S5.out.v2 1; have v1z2 := (blk_cell S5.out.v1 2).trans rfl; have v1f2 := blk_frozen S5.out.v1 2; have v2z2 := (blk_cell S5.out.v2 2).trans rfl; have v2f2 := blk_frozen S5.out.v2 2; have v1z3 := (blk_cell S5.out.v1 3).trans rfl; have v1f3 := blk_frozen S5.out.v1 3; have v2z3 := (blk_cell S5.out.v2 3).trans rfl; have v2f3 := blk_frozen S5.out.v2 3
    refine skip_ (w1 := ?_) (by rfl) rfl ?_ ?_
    rotate_left
    · go_simp
      rfl
    refine hK.out _ _ ?_
    clear hK K
    refine done_ (by kernel_rfl) ?_
    have S6 := Aside0.mk (show WS w ((((w5.setCell ⟨w.heap.size + 1, 0, none⟩ (.slice As d.s.length cs)).setCell ⟨w.heap.size + 1, 1, none⟩ (.slice none 0 0)).setCell ⟨w.heap.size + 1, 2, none⟩ (.int .i64 d.left)).setCell ⟨w.heap.size + 1, 3, none⟩ (.bool false)) #[.slice A0 d.s.length c0, .slice A1 d.p.length c1, .int .i64 d.left, .bool d.st] #[.slice As d.s.length cs, .slice none 0 0, .int .i64 d.left, .bool false] from ((((S5.out.set2 0 (.slice As d.s.length cs)).set2 1 (.slice none 0 0)).set2 2 (.int .i64 d.left)).set2 3 (.bool false)))
    have N6 := Aside0.mk (Kd.N_far (p := ⟨w.heap.size + 1, 3, none⟩) (Kd.N_far (p := ⟨w.heap.size + 1, 2, none⟩) (Kd.N_far (p := ⟨w.heap.size + 1, 1, none⟩) (Kd.N_far (p := ⟨w.heap.size + 1, 0, none⟩) N5.out apartO.ne2 (.slice As d.s.length cs)) apartO.ne2 (.slice none 0 0)) apartO.ne2 (.int .i64 d.left)) apartO.ne2 (.bool false))
    clear v1z0 v1f0 v2z0 v2f0 v1z1 v1f1 v2z1 v2f1 v1z2 v1f2 v2z2 v2f2 v1z3 v1f3 v2z3 v2f3
    clear S5 N5
    generalize ((((w5.setCell ⟨w.heap.size + 1, 0, none⟩ (.slice As d.s.length cs)).setCell ⟨w.heap.size + 1, 1, none⟩ (.slice none 0 0)).setCell ⟨w.heap.size + 1, 2, none⟩ (.int .i64 d.left)).setCell ⟨w.heap.size + 1, 3, none⟩ (.bool false)) = w6 at *
    have v1z0 := (blk_cell S6.out.v1 0).trans rfl; have v1f0 := blk_frozen S6.out.v1 0; have v2z0 := (blk_cell S6.out.v2 0).trans rfl; have v2f0 := blk_frozen S6.out.v2 0; have v1z1 := (blk_cell S6.out.v1 1).trans rfl; have v1f1 := blk_frozen S6.out.v1 1; have v2z1 := (blk_cell S6.out.v2 1).trans rfl; have v2f1 := blk_frozen S6.out.v2 1; have v1z2 := (blk_cell S6.out.v1 2).trans rfl; have v1f2 := blk_frozen S6.out.v1 2; have v2z2 := (blk_cell S6.out.v2 2).trans rfl; have v2f2 := blk_frozen S6.out.v2 2; have v1z3 := (blk_cell S6.out.v1 3).trans rfl; have v1f3 := blk_frozen S6.out.v1 3; have v2z3 := (blk_cell S6.out.v2 3).trans rfl; have v2f3 := blk_frozen S6.out.v2 3
    go_wp2
    have S7 := S6.out
    have N7 := N6.out
    have E := ((((S7.set2 0 (.slice As d.s.length cs)).set2 1 (.slice none 0 0)).set2 2 (.int .i64 d.left)).set2 3 (.bool false))
    have N8 := (Kd.N_far (p := ⟨w.heap.size + 1, 3, none⟩) (Kd.N_far (p := ⟨w.heap.size + 1, 2, none⟩) (Kd.N_far (p := ⟨w.heap.size + 1, 1, none⟩) (Kd.N_far (p := ⟨w.heap.size + 1, 0, none⟩) N7 apartO.ne2 (.slice As d.s.length cs)) apartO.ne2 (.slice none 0 0)) apartO.ne2 (.int .i64 d.left)) apartO.ne2 (.bool false))
    refine bodyPost_ret (results_ct rfl _ _ (w.heap.size + 1) 25 #[.slice As d.s.length cs, .slice none 0 0, .int .i64 d.left, .bool false] (0, 0) _ rfl E.v2 hu25 rfl info25') rfl ?_
    refine ⟨⟨_, by rw [HE.out]; rfl, ?_⟩, E.b⟩
    rw [HE.out]
    have hlen := performD_len d.s d.p
    have hif : (if 0 ≤ d.left then d.left - d.p.length else d.left) = d.left := if_neg (of_decide_eq_false HQ.out)
    rw [hif]
    exact ⟨As, cs, none, 0, by rw [hlen]; rfl, by rw [hlen]; have h_ := Kd.N_reads' N8; rw [hlen] at h_; exact h_.2.1, Nat.le_refl _, by rw [hlen]; exact Kd.F_mono (Kd.N_F N8) (fun k hk => apartO.out k hk), Kd.F_nil _ _ _⟩
  | true =>
    have HQ := Aside0.mk q0
    have q1 : decide ((d.left : Int) < (d.p.length : Int)) = false := decide_eq_false (by have := of_decide_eq_true q0; have := HLF.out; omega)
    go_enter Try.func30, Try.ntmps30
    go_upto_region 12 with (go_at_call 57; (refine (runs_says _ d _ D2.out).mono ?_); rintro e w1 ⟨he, hb⟩; rw [HR.out] at he; obtain rfl := he; have S3 := Aside0.mk (S2.out.step hb); have D3 := Aside0.mk (D2.out.below hb); clear hb; have v1z0 := (blk_cell S3.out.v1 0).trans rfl; have v1f0 := blk_frozen S3.out.v1 0; have v2z0 := (blk_cell S3.out.v2 0).trans rfl; have v2f0 := blk_frozen S3.out.v2 0; have v1z1 := (blk_cell S3.out.v1 1).trans rfl; have v1f1 := blk_frozen S3.out.v1 1; have v2z1 := (blk_cell S3.out.v2 1).trans rfl; have v2f1 := blk_frozen S3.out.v2 1; have v1z2 := (blk_cell S3.out.v1 2).trans rfl; have v1f2 := blk_frozen S3.out.v1 2; have v2z2 := (blk_cell S3.out.v2 2).trans rfl; have v2f2 := blk_frozen S3.out.v2 2; have v1z3 := (blk_cell S3.out.v1 3).trans rfl; have v1f3 := blk_frozen S3.out.v1 3; have v2z3 := (blk_cell S3.out.v2 3).trans rfl; have v2f3 := blk_frozen S3.out.v2 3)
    have S4 := Aside0.mk S3.out.drew
    clear v1z0 v1f0 v2z0 v2f0 v1z1 v1f1 v2z1 v2f1 v1z2 v1f2 v2z2 v2f2 v1z3 v1f3 v2z3 v2f3
    clear S2 S3 D2 D3
    refine start_ (n := 9) (S := fun w' => w'.cell? ⟨w.heap.size, 0, none⟩ = some (.slice A0 d.s.length c0) ∧ w'.cell? ⟨w.heap.size, 1, none⟩ = some (.slice A1 d.p.length c1) ∧ w'.cell? ⟨w.heap.size, 2, none⟩ = some (.int .i64 d.left)) (ds := [8]) #[false, false, false, false, false, false, false, false, false] (by kernel_rfl) rfl rfl ⟨(blk_cell S4.out.v1 0).trans rfl, (blk_cell S4.out.v1 1).trans rfl, (blk_cell S4.out.v1 2).trans rfl⟩ (fun hHeld => ?_)
    generalize w1.drew = w4 at *
    refine pure_ (i := 0) (N := some 61) (v := ?_) (a' := ?_) #[true, false, false, false, false, false, false, false, false] rfl rfl (by kernel_rfl) (fun _ _ _ h => h) (Or.inl ⟨by rfl, ?_⟩) ?_ ?_
    rotate_left
    · intro w'
      go_simp
      with_reducible rfl
    rotate_left
    · simp only [Act.put, List.setIfInBounds_toArray, List.set_cons_zero, List.set_cons_succ, i64_w, i32_w]
      rfl
    refine take_ (i := 1) (N := some 62) (v := ?_) (a' := ?_) #[true, true, false, false, false, false, false, false, false] rfl rfl (by kernel_rfl) (fun _ _ _ h => h) (Or.inl ⟨by rfl, ?_⟩) hHeld ?_ ?_
    rotate_left
    · rintro w' ⟨s0, s1, s2⟩
      go_simp
      with_reducible rfl
    rotate_left
    · simp only [Act.put, List.setIfInBounds_toArray, List.set_cons_zero, List.set_cons_succ, i64_w, i32_w]
      rfl
    refine pure_ (i := 2) (N := some 63) (v := ?_) (a' := ?_) #[true, true, true, false, false, false, false, false, false] rfl rfl (by kernel_rfl) (fun _ _ _ h => h) (Or.inl ⟨by rfl, ?_⟩) ?_ ?_
    rotate_left
    · intro w'
      go_simp
      with_reducible rfl
    rotate_left
    · simp only [Act.put, List.setIfInBounds_toArray, List.set_cons_zero, List.set_cons_succ, i64_w, i32_w]
      rfl
    refine take_ (i := 3) (N := some 64) (v := ?_) (a' := ?_) #[true, true, true, true, false, false, false, false, false] rfl rfl (by kernel_rfl) (fun _ _ _ h => h) (Or.inl ⟨by rfl, ?_⟩) hHeld ?_ ?_
    rotate_left
    · rintro w' ⟨s0, s1, s2⟩
      go_simp
      with_reducible rfl
    rotate_left
    · simp only [Act.put, List.setIfInBounds_toArray, List.set_cons_zero, List.set_cons_succ, i64_w, i32_w]
      rfl
    refine pure_ (i := 5) (N := some 66) (v := ?_) (a' := ?_) #[true, true, true, true, false, true, false, false, false] rfl rfl (by kernel_rfl) (fun _ _ _ h => h) (Or.inl ⟨by rfl, ?_⟩) ?_ ?_
    rotate_left
    · intro w'
      go_simp
      with_reducible rfl
    rotate_left
    · simp only [Act.put, List.setIfInBounds_toArray, List.set_cons_zero, List.set_cons_succ, i64_w, i32_w]
      rfl
    refine take_ (i := 6) (N := some 67) (v := ?_) (a' := ?_) #[true, true, true, true, false, true, true, false, false] rfl rfl (by kernel_rfl) (fun _ _ _ h => h) (Or.inl ⟨by rfl, ?_⟩) hHeld ?_ ?_
    rotate_left
    · rintro w' ⟨s0, s1, s2⟩
      go_simp
      with_reducible rfl
    rotate_left
    · simp only [Act.put, List.setIfInBounds_toArray, List.set_cons_zero, List.set_cons_succ, i64_w, i32_w]
      rfl
    refine one_ (i := 4) (N := some 65) #[true, true, true, true, true, true, true, false, false] rfl rfl (by kernel_rfl) (by decide) (fun K hK => ?_)
    refine goes_ Try.func62 (by kernel_rfl) rfl #[.slice A0 d.s.length c0, .slice A1 d.p.length c1] (by rfl) rfl rfl (by (try simp only [List.map_toArray, List.map_cons, List.map_nil]); first | done | rfl) ?_
    refine (perform_says A0 A1 c0 c1 d.s d.p _ (fun k => okd k ∧ k < w.heap.size) (Kd.F_below (Kd.F_bound HC0.out) S4.out.b) (Kd.F_below (Kd.F_bound HC1.out) S4.out.b) (fun x hx => ⟨(HOK.out.2.2.2.2.2.1 x hx).1, (HOK.out.2.2.2.2.2.1 x hx).2.1⟩) (by have := HOK.out.1; omega)).mono ?_
    rintro e w5 ⟨⟨vs, he, hn⟩, hb⟩
    obtain ⟨As, cs, hvs⟩ := Kd.N_slice hn
    rw [performD_len] at hvs
    subst hvs
    subst he
    refine ⟨_, rfl, ?_⟩
    have S5 := Aside0.mk (S4.out.step hb)
    have N5 := Aside0.mk (Kd.N_mono hn (ok' := apartO okd w) (fun k hk => hk.elim (fun h => .inl h) (apartO.new S4.out.lt k)))
    clear hn hb
    refine hK.out _ _ ⟨(blk_cell S5.out.v1 0).trans rfl, (blk_cell S5.out.v1 1).trans rfl, (blk_cell S5.out.v1 2).trans rfl⟩ (fun hHeld => ?_)
    clear hK K
    refine norm_ (a' := ?_) ?_ ?_
    rotate_left
    · show Act.put _ (some 65) _ = _
      simp only [Act.put, List.setIfInBounds_toArray, List.set_cons_zero, List.set_cons_succ, i64_w, i32_w]
      rfl
    refine pure_ (i := 7) (N := some 68) (v := ?_) (a' := ?_) #[true, true, true, true, true, true, true, true, false] rfl rfl (by kernel_rfl) (fun _ _ _ h => h) (Or.inl ⟨by rfl, ?_⟩) ?_ ?_
    rotate_left
    · intro w'
      go_simp
      with_reducible rfl
    rotate_left
    · simp only [Act.put, List.setIfInBounds_toArray, List.set_cons_zero, List.set_cons_succ, i64_w, i32_w]
      rfl
    refine last_ (i := 8) (N := none) #[true, true, true, true, true, true, true, true, true] rfl rfl (by kernel_rfl) (by decide) (fun K hK => ?_)
    have v1z0 := (blk_cell S5.out.v1 0).trans rfl; have v1f0 := blk_frozen S5.out.v1 0; have v2z0 := (blk_cell S5.out.v2 0).trans rfl; have v2f0 := blk_frozen S5.out.v2 0; have v1z1 := (blk_cell S5.out.v1 1).trans rfl; have v1f1 := blk_frozen S5.out.v1 1; have v2z1 := (blk_cell S5.out.v2 1).trans rfl; have v2f1 := blk_frozen S5.out.v2 1; have v1z2 := (blk_cell S5.out.v1 2).trans rfl; have v1f2 := blk_frozen S5.out.v1 2; have v2z2 := (blk_cell S5.out.v2 2).trans rfl; have v2f2 := blk_frozen S5.out.v2 2; have v1z3 := (blk_cell S5.out.v1 3).trans rfl; have v1f3 := blk_frozen S5.out.v1 3; have v2z3 := (blk_cell S5.out.v2 3).trans rfl; have v2f3 := blk_frozen S5.out.v2 3
    refine skip_ (w1 := ?_) (by rfl) rfl ?_ ?_
    rotate_left
    · go_simp
      rfl
    refine hK.out _ _ ?_
    clear hK K
    refine done_ (by kernel_rfl) ?_
    have S6 := Aside0.mk (show WS w ((((w5.setCell ⟨w.heap.size + 1, 0, none⟩ (.slice As d.s.length cs)).setCell ⟨w.heap.size + 1, 1, none⟩ (.slice none 0 0)).setCell ⟨w.heap.size + 1, 2, none⟩ (.int .i64 d.left)).setCell ⟨w.heap.size + 1, 3, none⟩ (.bool false)) #[.slice A0 d.s.length c0, .slice A1 d.p.length c1, .int .i64 d.left, .bool d.st] #[.slice As d.s.length cs, .slice none 0 0, .int .i64 d.left, .bool false] from ((((S5.out.set2 0 (.slice As d.s.length cs)).set2 1 (.slice none 0 0)).set2 2 (.int .i64 d.left)).set2 3 (.bool false)))
    have N6 := Aside0.mk (Kd.N_far (p := ⟨w.heap.size + 1, 3, none⟩) (Kd.N_far (p := ⟨w.heap.size + 1, 2, none⟩) (Kd.N_far (p := ⟨w.heap.size + 1, 1, none⟩) (Kd.N_far (p := ⟨w.heap.size + 1, 0, none⟩) N5.out apartO.ne2 (.slice As d.s.length cs)) apartO.ne2 (.slice none 0 0)) apartO.ne2 (.int .i64 d.left)) apartO.ne2 (.bool false))
    clear v1z0 v1f0 v2z0 v2f0 v1z1 v1f1 v2z1 v2f1 v1z2 v1f2 v2z2 v2f2 v1z3 v1f3 v2z3 v2f3
    clear S5 N5
    generalize ((((w5.setCell ⟨w.heap.size + 1, 0, none⟩ (.slice As d.s.length cs)).setCell ⟨w.heap.size + 1, 1, none⟩ (.slice none 0 0)).setCell ⟨w.heap.size + 1, 2, none⟩ (.int .i64 d.left)).setCell ⟨w.heap.size + 1, 3, none⟩ (.bool false)) = w6 at *
    have v1z0 := (blk_cell S6.out.v1 0).trans rfl; have v1f0 := blk_frozen S6.out.v1 0; have v2z0 := (blk_cell S6.out.v2 0).trans rfl; have v2f0 := blk_frozen S6.out.v2 0; have v1z1 := (blk_cell S6.out.v1 1).trans rfl; have v1f1 := blk_frozen S6.out.v1 1; have v2z1 := (blk_cell S6.out.v2 1).trans rfl; have v2f1 := blk_frozen S6.out.v2 1; have v1z2 := (blk_cell S6.out.v1 2).trans rfl; have v1f2 := blk_frozen S6.out.v1 2; have v2z2 := (blk_cell S6.out.v2 2).trans rfl; have v2f2 := blk_frozen S6.out.v2 2; have v1z3 := (blk_cell S6.out.v1 3).trans rfl; have v1f3 := blk_frozen S6.out.v1 3; have v2z3 := (blk_cell S6.out.v2 3).trans rfl; have v2f3 := blk_frozen S6.out.v2 3
    have hleft := of_decide_eq_true HQ.out
    have hw := w64sub d.left d.p.length HOK.out.2.2.1 HOK.out.2.2.2.1 HOK.out.2.1
    clear hleft
    go_wp2
    have S7 := S6.out.set2 2 (.int .i64 (d.left - (d.p.length : Int)))
    have N7 := Kd.N_far (p := ⟨w.heap.size + 1, 2, none⟩) N6.out apartO.ne2 (.int .i64 (d.left - (d.p.length : Int)))
    have E := ((((S7.set2 0 (.slice As d.s.length cs)).set2 1 (.slice none 0 0)).set2 2 (.int .i64 (d.left - (d.p.length : Int)))).set2 3 (.bool false))
    have N8 := (Kd.N_far (p := ⟨w.heap.size + 1, 3, none⟩) (Kd.N_far (p := ⟨w.heap.size + 1, 2, none⟩) (Kd.N_far (p := ⟨w.heap.size + 1, 1, none⟩) (Kd.N_far (p := ⟨w.heap.size + 1, 0, none⟩) N7 apartO.ne2 (.slice As d.s.length cs)) apartO.ne2 (.slice none 0 0)) apartO.ne2 (.int .i64 (d.left - (d.p.length : Int)))) apartO.ne2 (.bool false))
    refine bodyPost_ret (results_ct rfl _ _ (w.heap.size + 1) 25 #[.slice As d.s.length cs, .slice none 0 0, .int .i64 (d.left - (d.p.length : Int)), .bool false] (0, 0) _ rfl E.v2 hu25 rfl info25') rfl ?_
    refine ⟨⟨_, by rw [HE.out]; rfl, ?_⟩, E.b⟩
    rw [HE.out]
    have hlen := performD_len d.s d.p
    have hif : (if 0 ≤ d.left then d.left - d.p.length else d.left) = d.left - d.p.length := if_pos (of_decide_eq_true HQ.out)
    rw [hif]
    exact ⟨As, cs, none, 0, by rw [hlen]; rfl, by rw [hlen]; have h_ := Kd.N_reads' N8; rw [hlen] at h_; exact h_.2.1, Nat.le_refl _, by rw [hlen]; exact Kd.F_mono (Kd.N_F N8) (fun k hk => apartO.out k hk), Kd.F_nil _ _ _⟩
set_option maxHeartbeats 8000000 in
set_option maxRecDepth 100000 in
theorem syncF_tear (v : Value) (s : List (List Int)) (p : List S76) (ln : Nat) (st : Bool) (w : World) (okd : Nat → Prop) (h : DiskF w okd v (⟨s, p, (ln : Int), st⟩ : Dk)) (hr : runsD (⟨s, p, (ln : Int), st⟩ : Dk) = true) (hl : ln < p.length) : Calls Try.prog 30 #[v] w (DEndsF okd w (syncD (⟨s, p, (ln : Int), st⟩ : Dk))) := by
  have hd := h.V
  obtain ⟨A0, c0, A1, c1, rfl, h0, h1, hC0, hC1⟩ := h
  dsimp only at h0 h1 hC0 hC1 ⊢
  have hok := runs_ok hr
  dsimp only at hok
  have S2 := Aside0.mk (WS.new w #[.slice A0 s.length c0, .slice A1 p.length c1, .int .i64 (ln : Int), .bool st] #[.slice none 0 0, .slice none 0 0, .int .i64 0, .bool false])
  have D2 := Aside0.mk (hd.below S2.out.b)
  have HC0 := Aside0.mk hC0
  have HC1 := Aside0.mk hC1
  have HL := Aside0.mk (And.intro h0 h1)
  have hu25 := Try.underlying25
  have HOK := Aside0.mk hok
  have HR := Aside0.mk hr
  obtain ⟨x, hx⟩ : ∃ x, p.getD ln z76 = x := ⟨_, rfl⟩
  have hxm : x ∈ p := by rw [← hx, List.getD_eq_getElem?_getD, List.getElem?_eq_getElem hl]; exact List.getElem_mem hl
  have HXV := Aside0.mk (hok.2.2.2.2.2.1 x hxm)
  have hxs : x.f0.toNat < s.length := by have := hok.2.2.2.2.2.1 x hxm; omega
  obtain ⟨sec, hsec⟩ : ∃ sec, (performD s (p.take ln)).getD x.f0.toNat [] = sec := ⟨_, rfl⟩
  have HSEC := Aside0.mk hsec
  have HX := Aside0.mk hx
  have HE := Aside0.mk (show syncD (⟨s, p, (ln : Int), st⟩ : Dk) = (⟨(performD s (p.take ln)).set x.f0.toNat (tear sec x.f1), [], 0, true⟩, 450) from by
    unfold syncD
    rw [if_pos hr, if_pos ⟨by simp only; omega, by simp only; omega⟩]
    simp only [show ((ln : Int)).toNat = ln by omega, hx, hsec])
  have hsl : ∀ W : World, (Instr.slice 23 (.slice A1 p.length c1) none (some (.int .i64 (ln : Int))) (some (.int .i64 (ln : Int)))).run Try.prog W = .ok (.slice A1 ln ln) W := fun W => by
    have q1 : (0 : Int) ≤ (ln : Int) := by omega
    have q2 : (ln : Int) ≤ (c1 : Int) := by omega
    have q3 : (ln : Int) ≤ (ln : Int) := by omega
    have hu23 := Try.underlying23
    go_simp
  have q0 : decide ((0 : Int) ≤ (ln : Int)) = true := decide_eq_true (by omega)
  have q1 : decide (ln < p.length) = true := decide_eq_true hl
  have HLT := Aside0.mk hl
  clear hd h0 h1 hC0 hC1 hok hr hx hxm hxs hsec hl
  go_enter Try.func30, Try.ntmps30
  go_upto_region 6 with (go_at_call 57; (refine (runs_says _ (⟨s, p, (ln : Int), st⟩ : Dk) _ D2.out).mono ?_); rintro e w1 ⟨he, hb⟩; rw [HR.out] at he; obtain rfl := he; have S3 := Aside0.mk (S2.out.step hb); have D3 := Aside0.mk (D2.out.below hb); clear hb; have v1z0 := (blk_cell S3.out.v1 0).trans rfl; have v1f0 := blk_frozen S3.out.v1 0; have v2z0 := (blk_cell S3.out.v2 0).trans rfl; have v2f0 := blk_frozen S3.out.v2 0; have v1z1 := (blk_cell S3.out.v1 1).trans rfl; have v1f1 := blk_frozen S3.out.v1 1; have v2z1 := (blk_cell S3.out.v2 1).trans rfl; have v2f1 := blk_frozen S3.out.v2 1; have v1z2 := (blk_cell S3.out.v1 2).trans rfl; have v1f2 := blk_frozen S3.out.v1 2; have v2z2 := (blk_cell S3.out.v2 2).trans rfl; have v2f2 := blk_frozen S3.out.v2 2; have v1z3 := (blk_cell S3.out.v1 3).trans rfl; have v1f3 := blk_frozen S3.out.v1 3; have v2z3 := (blk_cell S3.out.v2 3).trans rfl; have v2f3 := blk_frozen S3.out.v2 3)
  clear S2 D2 D3
  have htl : (p.take ln).length = ln := by rw [List.length_take]; have := HLT.out; omega
  have C := perform_says A0 A1 c0 ln s (p.take ln) w1 (fun k => okd k ∧ k < w.heap.size) (Kd.F_below (Kd.F_bound HC0.out) S3.out.b) (Kd.F_imp (Kd.F_below (Kd.F_bound HC1.out) S3.out.b) (fun W' h_ => Kd.C_take h_ (Nat.le_of_lt HLT.out))) (fun y hy => ⟨(HOK.out.2.2.2.2.2.1 y (List.mem_of_mem_take hy)).1, (HOK.out.2.2.2.2.2.1 y (List.mem_of_mem_take hy)).2.1⟩) (by have := HOK.out.1; omega)
  rw [htl] at C
  replace C := Aside0.mk C
  clear htl
  go_upto_region 7 with (go_at_call 62; (refine C.out.mono ?_); rintro e w2 ⟨⟨vs, he, hn⟩, hb⟩; obtain ⟨As, cs, hvs⟩ := Kd.N_slice hn; rw [performD_len] at hvs; subst hvs; subst he; have S4 := Aside0.mk (S3.out.step hb); have N4 := Aside0.mk (Kd.N_mono hn (ok' := apartO okd w) (fun k hk => hk.elim (fun h => .inl h) (apartO.new S3.out.lt k))); clear v1z0 v1f0 v2z0 v2f0 v1z1 v1f1 v2z1 v2f1 v1z2 v1f2 v2z2 v2f2 v1z3 v1f3 v2z3 v2f3; have v1z0 := (blk_cell S4.out.v1 0).trans rfl; have v1f0 := blk_frozen S4.out.v1 0; have v2z0 := (blk_cell S4.out.v2 0).trans rfl; have v2f0 := blk_frozen S4.out.v2 0; have v1z1 := (blk_cell S4.out.v1 1).trans rfl; have v1f1 := blk_frozen S4.out.v1 1; have v2z1 := (blk_cell S4.out.v2 1).trans rfl; have v2f1 := blk_frozen S4.out.v2 1; have v1z2 := (blk_cell S4.out.v1 2).trans rfl; have v1f2 := blk_frozen S4.out.v1 2; have v2z2 := (blk_cell S4.out.v2 2).trans rfl; have v2f2 := blk_frozen S4.out.v2 2; have v1z3 := (blk_cell S4.out.v1 3).trans rfl; have v1f3 := blk_frozen S4.out.v1 3; have v2z3 := (blk_cell S4.out.v2 3).trans rfl; have v2f3 := blk_frozen S4.out.v2 3; clear hn hb)
  have S5 := Aside0.mk (show WS w ((((w2.setCell ⟨w.heap.size + 1, 0, none⟩ (.slice As s.length cs)).setCell ⟨w.heap.size + 1, 1, none⟩ (.slice none 0 0)).setCell ⟨w.heap.size + 1, 2, none⟩ (.int .i64 0)).setCell ⟨w.heap.size + 1, 3, none⟩ (.bool true)) #[.slice A0 s.length c0, .slice A1 p.length c1, .int .i64 (ln : Int), .bool st] #[.slice As s.length cs, .slice none 0 0, .int .i64 0, .bool true] from ((((S4.out.set2 0 (.slice As s.length cs)).set2 1 (.slice none 0 0)).set2 2 (.int .i64 0)).set2 3 (.bool true)))
  have N5 := Aside0.mk (Kd.N_lower (base' := w.heap.size) (Kd.N_far (p := ⟨w.heap.size + 1, 3, none⟩) (Kd.N_far (p := ⟨w.heap.size + 1, 2, none⟩) (Kd.N_far (p := ⟨w.heap.size + 1, 1, none⟩) (Kd.N_far (p := ⟨w.heap.size + 1, 0, none⟩) N4.out apartO.ne2 (.slice As s.length cs)) apartO.ne2 (.slice none 0 0)) apartO.ne2 (.int .i64 0)) apartO.ne2 (.bool true)) S3.out.b.size)
  clear v1z0 v1f0 v2z0 v2f0 v1z1 v1f1 v2z1 v2f1 v1z2 v1f2 v2z2 v2f2 v1z3 v1f3 v2z3 v2f3
  clear S4 N4 S3
  generalize ((((w2.setCell ⟨w.heap.size + 1, 0, none⟩ (.slice As s.length cs)).setCell ⟨w.heap.size + 1, 1, none⟩ (.slice none 0 0)).setCell ⟨w.heap.size + 1, 2, none⟩ (.int .i64 0)).setCell ⟨w.heap.size + 1, 3, none⟩ (.bool true)) = w3 at *
  have v1z0 := (blk_cell S5.out.v1 0).trans rfl; have v1f0 := blk_frozen S5.out.v1 0; have v2z0 := (blk_cell S5.out.v2 0).trans rfl; have v2f0 := blk_frozen S5.out.v2 0; have v1z1 := (blk_cell S5.out.v1 1).trans rfl; have v1f1 := blk_frozen S5.out.v1 1; have v2z1 := (blk_cell S5.out.v2 1).trans rfl; have v2f1 := blk_frozen S5.out.v2 1; have v1z2 := (blk_cell S5.out.v1 2).trans rfl; have v1f2 := blk_frozen S5.out.v1 2; have v2z2 := (blk_cell S5.out.v2 2).trans rfl; have v2f2 := blk_frozen S5.out.v2 2; have v1z3 := (blk_cell S5.out.v1 3).trans rfl; have v1f3 := blk_frozen S5.out.v1 3; have v2z3 := (blk_cell S5.out.v2 3).trans rfl; have v2f3 := blk_frozen S5.out.v2 3
  obtain ⟨ad, cx, rfl, hcl, hfk, hcc, -⟩ := Kd.F_get (Kd.F_below (Kd.F_bound HC1.out) S5.out.b) z76 (ln : Int) (by omega) (by have := HLT.out; omega)
  rw [show ((ln : Int)).toNat = ln by omega, HX.out] at hfk
  obtain ⟨Ax, ccx, rfl, hlx, hFx⟩ := k76_openF hfk
  have hx0 : w3.cell? (ad.add (ln * 2)) = some (.int .i64 x.f0) := by have h_ := hcc 0 _ rfl; rw [show ((ln : Int)).toNat = ln by omega] at h_; exact h_
  have hx1 : w3.cell? ⟨(ad.add (ln * 2)).block, (ad.add (ln * 2)).off + 1, none⟩ = some (.slice Ax x.f1.length ccx) := by
    have h_ := hcc 1 _ rfl
    rw [show ((ln : Int)).toNat = ln by omega] at h_
    rw [← add_field _ _ 1 (by omega)]
    exact h_
  have HFX := Aside0.mk hFx
  have HLX := Aside0.mk hlx
  have hlt := HLT.out
  clear hcl hcc hfk hlx hFx
  go_upto_region 8 with (fail)
  have S6 := Aside0.mk (S5.out.alloc (.cells #[.int .i64 x.f0, .slice Ax x.f1.length ccx] 76))
  have N6 := Aside0.mk (Kd.N_bound (Kd.N_alloc N5.out (.cells #[.int .i64 x.f0, .slice Ax x.f1.length ccx] 76)))
  have BB := Aside0.mk (blk_new w3 (.cells #[.int .i64 x.f0, .slice Ax x.f1.length ccx] 76))
  have HF6 := Aside0.mk (Kd.F_alloc HFX.out (.cells #[.int .i64 x.f0, .slice Ax x.f1.length ccx] 76))
  clear v1z0 v1f0 v2z0 v2f0 v1z1 v1f1 v2z1 v2f1 v1z2 v1f2 v2z2 v2f2 v1z3 v1f3 v2z3 v2f3
  clear S5 N5 hx0 hx1 HFX hlt
  generalize hw4 : w3.alloc (.cells #[.int .i64 x.f0, .slice Ax x.f1.length ccx] 76) = w4 at *
  generalize w3.heap.size = h4 at *
  clear hw4
  have v1z0 := (blk_cell S6.out.v1 0).trans rfl; have v1f0 := blk_frozen S6.out.v1 0; have v2z0 := (blk_cell S6.out.v2 0).trans rfl; have v2f0 := blk_frozen S6.out.v2 0; have v1z1 := (blk_cell S6.out.v1 1).trans rfl; have v1f1 := blk_frozen S6.out.v1 1; have v2z1 := (blk_cell S6.out.v2 1).trans rfl; have v2f1 := blk_frozen S6.out.v2 1; have v1z2 := (blk_cell S6.out.v1 2).trans rfl; have v1f2 := blk_frozen S6.out.v1 2; have v2z2 := (blk_cell S6.out.v2 2).trans rfl; have v2f2 := blk_frozen S6.out.v2 2; have v1z3 := (blk_cell S6.out.v1 3).trans rfl; have v1f3 := blk_frozen S6.out.v1 3; have v2z3 := (blk_cell S6.out.v2 3).trans rfl; have v2f3 := blk_frozen S6.out.v2 3
  have bz0 := (blk_cell BB.out 0).trans rfl
  have bz1 := (blk_cell BB.out 1).trans rfl
  have hlen := performD_len s (p.take ln)
  obtain ⟨g, cap, he, hge, hgl, -⟩ := Kd.N_form N6.out (by rw [hlen]; have := HOK.out.2.2.2.2.1; omega)
  injection he with hea hel hec
  subst hea
  subst hec
  obtain ⟨cq, hcl, hfk, hcc, hfr⟩ := Kd.N_elem N6.out ([] : List Int) x.f0 HXV.out.1 HXV.out.2.1
  rw [HSEC.out] at hfk
  obtain ⟨Aq, cqq, rfl, hlq, hFq⟩ := fk_sec_open hfk
  have hq0 : w4.cell? ⟨g, x.f0.toNat, none⟩ = some (.slice Aq sec.length cqq) := by have h_ := hcc 0 _ rfl; rw [show x.f0.toNat * (Kd.slice 5 (Kd.int .u8)).sz + 0 = x.f0.toNat from Nat.mul_one _] at h_; exact h_
  have HFQ := Aside0.mk hFq
  have hi0 := HXV.out.1
  have hi1 : x.f0 < (s.length : Int) := HXV.out.2.1
  have HGL := Aside0.mk hgl
  have HSL := Aside0.mk (show sec.length = 128 from by
    have hm : x.f0.toNat < (performD s (p.take ln)).length := by rw [hlen]; have := HXV.out; omega
    have h_ := HSEC.out
    rw [List.getD_eq_getElem?_getD, List.getElem?_eq_getElem hm] at h_
    rw [← h_]
    exact performD_all s (p.take ln) HOK.out.2.2.2.2.2.2 (fun y hy => (HOK.out.2.2.2.2.2.1 y (List.mem_of_mem_take hy)).2.2) _ (List.getElem_mem hm))
  clear hlen hel hcl hfk hcc hfr hlq hFq hge hgl
  have HB4 := Aside0.mk (blk_lt BB.out)
  go_upto_region 9 with (go_at_call 63; (refine (clone5_says Aq cqq sec _ _ HFQ.out (by have := HSL.out; omega)).mono ?_); rintro e w5 ⟨⟨vt, he, hn⟩, hb⟩; obtain ⟨gt, capt, rest, hvt, hct, hgt, hbt⟩ := own_bytes hn (by have := HSL.out; omega); subst hvt; subst he; have HGT := Aside0.mk (show w.heap.size + 1 < gt ∧ w4.heap.size ≤ gt ∧ h4 < gt from ⟨Nat.lt_of_lt_of_le S6.out.lt hgt, hgt, Nat.lt_of_lt_of_le HB4.out hgt⟩); have HCT := Aside0.mk hct; have BT5 := Aside0.mk hbt; have S5 := Aside0.mk (S6.out.step hb); have N5 := Aside0.mk (Kd.N_below N6.out hb); have BB5 := Aside0.mk (blk_below BB.out hb); have HFX5 := Aside0.mk (Kd.F_below HF6.out hb); clear v1z0 v1f0 v2z0 v2f0 v1z1 v1f1 v2z1 v2f1 v1z2 v1f2 v2z2 v2f2 v1z3 v1f3 v2z3 v2f3; clear hq0 bz0 bz1 hi0 hi1 hb hn hct hgt hbt)
  have S6a := Aside0.mk S5.out.drew
  have N6a := Aside0.mk (Kd.N_drew N5.out)
  have BB6 := Aside0.mk (blk_drew BB5.out)
  have BT6 := Aside0.mk (blk_drew BT5.out)
  have HFX6 := Aside0.mk (Kd.F_drew HFX5.out)
  clear S6 N6 S5 N5 BB BB5 BT5 HF6 HFX5 HFQ
  have S6 := S6a
  have N6 := N6a
  clear S6a N6a
  have BX6 := Aside0.mk ((blk_cell BB6.out 1).trans rfl)
  have hc64 : (64 : Int) ≤ (capt : Int) := by have := HSL.out; have := HCT.out; omega
  refine start_ (n := 5) (S := fun w' => w'.cell? ⟨h4, 1, none⟩ = some (.slice Ax x.f1.length ccx)) (ds := []) #[false, false, false, false, false] (by kernel_rfl) rfl rfl (BX6.out) (fun hHeld => ?_)
  generalize w5.drew = w6 at *
  refine pure_ (i := 0) (N := some 49) (v := ?_) (a' := ?_) #[true, false, false, false, false] rfl rfl (by kernel_rfl) (fun _ _ _ h => h) (Or.inl ⟨by rfl, ?_⟩) ?_ ?_
  rotate_left
  · intro w'
    go_simp
    with_reducible rfl
  rotate_left
  · simp only [Act.put, List.setIfInBounds_toArray, List.set_cons_zero, List.set_cons_succ, i64_w, i32_w]
    rfl
  refine pure_ (i := 1) (N := some 50) (v := ?_) (a' := ?_) #[true, true, false, false, false] rfl rfl (by kernel_rfl) (fun _ _ _ h => h) (Or.inl ⟨by rfl, ?_⟩) ?_ ?_
  rotate_left
  · intro w'
    go_simp
    with_reducible rfl
  rotate_left
  · simp only [Act.put, List.setIfInBounds_toArray, List.set_cons_zero, List.set_cons_succ, i64_w, i32_w]
    rfl
  refine pure_ (i := 2) (N := some 51) (v := ?_) (a' := ?_) #[true, true, true, false, false] rfl rfl (by kernel_rfl) (fun _ _ _ h => h) (Or.inl ⟨by rfl, ?_⟩) ?_ ?_
  rotate_left
  · intro w'
    go_simp
    with_reducible rfl
  rotate_left
  · simp only [Act.put, List.setIfInBounds_toArray, List.set_cons_zero, List.set_cons_succ, i64_w, i32_w]
    rfl
  refine take_ (i := 3) (N := some 52) (v := ?_) (a' := ?_) #[true, true, true, true, false] rfl rfl (by kernel_rfl) (fun _ _ _ h => h) (Or.inl ⟨by rfl, ?_⟩) hHeld ?_ ?_
  rotate_left
  · rintro w' s0
    go_simp
    with_reducible rfl
  rotate_left
  · simp only [Act.put, List.setIfInBounds_toArray, List.set_cons_zero, List.set_cons_succ, i64_w, i32_w]
    rfl
  refine one_ (i := 4) (N := some 53) #[true, true, true, true, true] rfl rfl (by kernel_rfl) (by decide) (fun K hK => ?_)
  refine step_copy_splice rfl (.tmp 50) (.tmp 52) 35 35 rfl 5 Try.underlying35 info5s (some ⟨gt, 0, none⟩) Ax 64 capt x.f1.length ccx rfl rfl gt 0 (nums .u8 sec ++ rest) 5 BT6.out (nums .u8 (x.f1.take 64)) ?cn ?cp ?cf ?c1 gt w6 (Below.refl _ _) (Nat.le_refl _) ?_
  case cn => rw [nums_length, List.length_take, HXV.out.2.2]; rfl
  case cp => intro hp; obtain ⟨ad2, ha, hcc2⟩ := int_cells (Kd.F_now HFX6.out) (by rw [nums_length, HXV.out.2.2]; decide); exact ⟨rfl, ad2, ha, fun j v hj => hcc2 j v (by rw [nums, List.map_take, List.getElem?_take] at hj; split at hj; exact hj; cases hj)⟩
  case cf => rw [nums_length, List.length_take, List.length_append, nums_length, HXV.out.2.2, HSL.out]; omega
  case c1 => exact nums_one _
  intro w7 hg7 hb7
  have BT7 := Aside0.mk (show w7.heap[gt]? = some (.cells (nums .u8 (tear sec x.f1) ++ rest).toArray 5 (0, 0)) from by rw [← tear_splice sec x.f1 rest HSL.out HXV.out.2.2]; exact hg7.out)
  have S7 := Aside0.mk (S6.out.stepB hb7 HGT.out.1)
  have N7 := Aside0.mk (Kd.N_step N6.out (fun k hk _ => hb7.block k (Nat.lt_of_lt_of_le hk.2 HGT.out.2.1)))
  have BX7 := Aside0.mk (show w7.heap[h4]? = some (.cells #[.int .i64 x.f0, .slice Ax x.f1.length ccx] 76 (0, 0)) from (hb7.block h4 HGT.out.2.2).trans BB6.out)
  clear hg7 hb7
  refine hK.out _ _ (((blk_cell BX7.out 1).trans rfl)) (fun hHeld => ?_)
  clear hK K
  refine norm_ (a' := ?_) ?_ ?_
  rotate_left
  · show Act.put _ (some 53) _ = _
    simp only [Act.put, List.setIfInBounds_toArray, List.set_cons_zero, List.set_cons_succ, i64_w, i32_w]
    rfl
  refine done_ (by kernel_rfl) ?_
  have hglt : g < gt := Nat.lt_of_lt_of_le HGL.out HGT.out.2.1
  have HGG := Aside0.mk hglt
  have N8 := Aside0.mk (Kd.N_mono N7.out (ok' := apartO okd w) (fun k hk => hk.1))
  have HGA := Aside0.mk (show apartO okd w g from N8.out.1 g (by simp [Value.ownBlock]))
  clear N6 N7 S6 BB6 BT6 HFX6 BX6 hglt
  have v1z0 := (blk_cell S7.out.v1 0).trans rfl; have v1f0 := blk_frozen S7.out.v1 0; have v2z0 := (blk_cell S7.out.v2 0).trans rfl; have v2f0 := blk_frozen S7.out.v2 0; have v1z1 := (blk_cell S7.out.v1 1).trans rfl; have v1f1 := blk_frozen S7.out.v1 1; have v2z1 := (blk_cell S7.out.v2 1).trans rfl; have v2f1 := blk_frozen S7.out.v2 1; have v1z2 := (blk_cell S7.out.v1 2).trans rfl; have v1f2 := blk_frozen S7.out.v1 2; have v2z2 := (blk_cell S7.out.v2 2).trans rfl; have v2f2 := blk_frozen S7.out.v2 2; have v1z3 := (blk_cell S7.out.v1 3).trans rfl; have v1f3 := blk_frozen S7.out.v1 3; have v2z3 := (blk_cell S7.out.v2 3).trans rfl; have v2f3 := blk_frozen S7.out.v2 3
  have bz0 := (blk_cell BX7.out 0).trans rfl
  obtain ⟨cq, hcl, -, hcc, hfr⟩ := Kd.N_elem N8.out ([] : List Int) x.f0 HXV.out.1 HXV.out.2.1
  obtain ⟨q, rfl⟩ : ∃ q, cq = [q] := List.length_eq_one_iff.1 hcl
  have hq0 : w7.cell? ⟨g, x.f0.toNat, none⟩ = some q := by have h_ := hcc 0 q rfl; rw [show x.f0.toNat * (Kd.slice 5 (Kd.int .u8)).sz + 0 = x.f0.toNat from Nat.mul_one _] at h_; exact h_
  have HCC := Aside0.mk hcc
  have HTL := tear_len sec x.f1 HSL.out HXV.out.2.2
  have HFT := Aside0.mk (show Kd.FK (Kd.slice 5 (Kd.int .u8)) w7 (fun k => apartO okd w k ∧ k ≠ g) (tear sec x.f1) [.slice (some ⟨gt, 0, none⟩) sec.length capt] from by
    have h_ := fk_sec (ok := fun k => apartO okd w k ∧ k ≠ g) (l := tear sec x.f1) (A := some ⟨gt, 0, none⟩) (c := capt) (by rw [HTL, ← HSL.out]; exact HCT.out) (bytesR_F BT7.out ⟨.inr HGT.out.1, by have := HGG.out; omega⟩ (by rw [HTL]; decide))
    rwa [HTL, ← HSL.out] at h_)
  have hi0 := HXV.out.1
  have hi1 : x.f0 < (s.length : Int) := HXV.out.2.1
  clear hcl hcc hfr HTL
  go_wp2_with ((with_reducible refine gate_store (t := 35) (p := 59) (v := .tmp 58) rfl ?_); refine Kd.N_store (Kd.slice 5 (Kd.int .u8)) (w0 := w) w.heap.size rfl rfl 35 (.tmp 59) (.tmp 58) rfl 35 x.f0 0 (performD s (p.take ln)) (tear sec x.f1) (.slice (some ⟨gt, 0, none⟩) sec.length capt) [.slice (some ⟨gt, 0, none⟩) sec.length capt] [q] (apartO okd w) (fun k => apartO okd w k ∧ k ≠ g) rfl ?ho rfl rfl (by kernel_rfl) (by intro q hq; rw [List.mem_singleton.1 hq]; rfl) N8.out HXV.out.1 HXV.out.2.1 rfl HCC.out (Nat.le_refl 1) HFT.out (fun k hk => hk) S7.out.b ?_; (case ho => exact (Nat.mul_one _).symm); intro w8 hn8 hb8 hg8; have N9 := Aside0.mk hn8; have S8 := Aside0.mk (show WS w w8 #[.slice A0 s.length c0, .slice (some ad) p.length c1, .int .i64 (ln : Int), .bool st] #[.slice (some ⟨g, 0, none⟩) s.length cs, .slice none 0 0, .int .i64 0, .bool true] from ⟨hb8, (hg8.block _ (by have := S7.out.lt; omega) (fun e => apartO.ne1 g HGA.out (Option.some.inj e).symm)).trans S7.out.v1, (hg8.block _ S7.out.lt (fun e => apartO.ne2 g HGA.out (Option.some.inj e).symm)).trans S7.out.v2⟩); clear v1z0 v1f0 v2z0 v2f0 v1z1 v1f1 v2z1 v2f1 v1z2 v1f2 v2z2 v2f2 v1z3 v1f3 v2z3 v2f3; have v1z0 := (blk_cell S8.out.v1 0).trans rfl; have v1f0 := blk_frozen S8.out.v1 0; have v2z0 := (blk_cell S8.out.v2 0).trans rfl; have v2f0 := blk_frozen S8.out.v2 0; have v1z1 := (blk_cell S8.out.v1 1).trans rfl; have v1f1 := blk_frozen S8.out.v1 1; have v2z1 := (blk_cell S8.out.v2 1).trans rfl; have v2f1 := blk_frozen S8.out.v2 1; have v1z2 := (blk_cell S8.out.v1 2).trans rfl; have v1f2 := blk_frozen S8.out.v1 2; have v2z2 := (blk_cell S8.out.v2 2).trans rfl; have v2f2 := blk_frozen S8.out.v2 2; have v1z3 := (blk_cell S8.out.v1 3).trans rfl; have v1f3 := blk_frozen S8.out.v1 3; have v2z3 := (blk_cell S8.out.v2 3).trans rfl; have v2f3 := blk_frozen S8.out.v2 3; clear hn8 hb8 hg8 hq0 bz0)
  have E := ((((S8.out.set2 0 (.slice (some ⟨g, 0, none⟩) s.length cs)).set2 1 (.slice none 0 0)).set2 2 (.int .i64 0)).set2 3 (.bool true))
  have NE := (Kd.N_far (p := ⟨w.heap.size + 1, 3, none⟩) (Kd.N_far (p := ⟨w.heap.size + 1, 2, none⟩) (Kd.N_far (p := ⟨w.heap.size + 1, 1, none⟩) (Kd.N_far (p := ⟨w.heap.size + 1, 0, none⟩) N9.out apartO.ne2 (.slice (some ⟨g, 0, none⟩) s.length cs)) apartO.ne2 (.slice none 0 0)) apartO.ne2 (.int .i64 0)) apartO.ne2 (.bool true))
  refine bodyPost_ret (results_ct rfl _ _ (w.heap.size + 1) 25 #[.slice (some ⟨g, 0, none⟩) s.length cs, .slice none 0 0, .int .i64 0, .bool true] (0, 0) _ rfl E.v2 hu25 rfl info25') rfl ?_
  refine ⟨⟨_, by rw [HE.out]; rfl, ?_⟩, E.b⟩
  rw [HE.out]
  have hlen : ((performD s (p.take ln)).set x.f0.toNat (tear sec x.f1)).length = s.length := by rw [List.length_set, performD_len]
  exact ⟨some ⟨g, 0, none⟩, cs, none, 0, by rw [hlen]; rfl, by rw [hlen]; have h_ := (Kd.N_reads' NE).2.1; omega, Nat.le_refl _, by rw [hlen]; exact Kd.F_mono (Kd.N_F NE) (fun k hk => apartO.out k hk), Kd.F_nil _ _ _⟩
theorem syncF_says (okd : Nat → Prop) (v : Value) (d : Dk) (w : World) (h : DiskF w okd v d) : Calls Try.prog 30 #[v] w (DEndsF okd w (syncD d)) := by
  cases hr : runsD d with
  | false => exact syncF_bad v d w okd h hr
  | true =>
    by_cases hl : 0 ≤ d.left ∧ d.left < d.p.length
    · obtain ⟨s, p, left, st⟩ := d
      obtain ⟨ln, rfl⟩ : ∃ ln : Nat, left = (ln : Int) := ⟨left.toNat, by have := hl.1; simp only at this; omega⟩
      exact syncF_tear v s p ln st w okd h hr (by have := hl.2; simp only at this; omega)
    · exact syncF_all v d w okd h hr hl
end Go.Proofs.Ytlnmjgkeiljniaa.Q
/- sizarlaw45.sane. -/
namespace Go.Proofs.Ytlnmjgkeiljniaa.Q
open Go.RowKit Go.Proofs.YtlnmjgkeiljniaaW.PrintWords Go.Proofs.YtlnmjgkeiljniaaW.PrintLast Go.Proofs.YtlnmjgkeiljniaaW.PrintMore
set_option linter.unusedVariables false
set_option linter.unusedSimpArgs false
/-- how a function that makes a disk and an error ends, told in parts -/
def DE (w : World) (d : Dk) (err : Int) (e : Ending) (w' : World) : Prop := (∃ A0 c0 A1 c1, e = .returned (.tuple #[.agg #[.slice A0 d.s.length c0, .slice A1 d.p.length c1, .int .i64 d.left, .bool d.st], .int .i64 err]) ∧ DiskV w' (.agg #[.slice A0 d.s.length c0, .slice A1 d.p.length c1, .int .i64 d.left, .bool d.st]) d) ∧ Below w.heap.size w w'
theorem DE.of {w w' : World} {r : Dk × Int} {d : Dk} {err : Int} {e : Ending} (h : DEnds w r e w') (hr : r = (d, err)) : DE w d err e w' := by
  subst hr
  obtain ⟨⟨v, he, hd⟩, hb⟩ := h
  have hd2 := hd
  obtain ⟨A0, c0, A1, c1, rfl, -⟩ := hd2
  exact ⟨⟨A0, c0, A1, c1, he, hd⟩, hb⟩
def DEF (okd : Nat → Prop) (w : World) (d : Dk) (err : Int) (e : Ending) (w' : World) : Prop := (∃ A0 c0 A1 c1, e = .returned (.tuple #[.agg #[.slice A0 d.s.length c0, .slice A1 d.p.length c1, .int .i64 d.left, .bool d.st], .int .i64 err]) ∧ DiskF w' (fun k => okd k ∨ w.heap.size ≤ k) (.agg #[.slice A0 d.s.length c0, .slice A1 d.p.length c1, .int .i64 d.left, .bool d.st]) d) ∧ Below w.heap.size w w'
theorem DEF.of {okd : Nat → Prop} {w w' : World} {r : Dk × Int} {d : Dk} {err : Int} {e : Ending} (h : DEndsF okd w r e w') (hr : r = (d, err)) : DEF okd w d err e w' := by
  subst hr
  obtain ⟨⟨v, he, hd⟩, hb⟩ := h
  have hd2 := hd
  obtain ⟨A0, c0, A1, c1, rfl, -⟩ := hd2
  exact ⟨⟨A0, c0, A1, c1, he, hd⟩, hb⟩
/-- .. a row of n bytes and an error -/
def RE (w : World) (n : Nat) (b : List Int) (err : Int) (e : Ending) (w' : World) : Prop := (∃ A c, e = .returned (.tuple #[.slice A n c, .int .i64 err]) ∧ n ≤ c ∧ Kd.F (Kd.int .u8) w' (fun k => k < w'.heap.size) A n b) ∧ Below w.heap.size w w'
theorem RE.of {w w' : World} {r : List Int × Int} {n : Nat} {b : List Int} {err : Int} {e : Ending} (h : REnds w r e w') (hr : r = (b, err)) (hn : b.length = n) : RE w n b err e w' := by
  subst hr
  subst hn
  obtain ⟨⟨v, he, A, c, rfl, hc, hC⟩, hb⟩ := h
  exact ⟨⟨A, c, he, hc, Kd.C_F (Kd.heap_int .u8) hC⟩, hb⟩
theorem byte_at {W : World} {ok : Nat → Prop} {A : Option Addr} {n : Nat} {b : List Int} (h : Kd.F (Kd.int .u8) W ok A n b) (i : Nat) (hi : i < n) : ∃ ad, A = some ad ∧ W.cell? (ad.add i) = some (.int .u8 (b.getD i 0)) := by
  have hC := Kd.F_now h
  obtain ⟨ad, rfl, hc⟩ := hC.2.2 (by omega)
  have hl := hC.1
  have hil : i < b.length := by omega
  obtain ⟨c, _, hk, hcc⟩ := hc i _ (List.getElem?_eq_getElem hil)
  have hk2 : c = [.int .u8 b[i]] := hk
  have h3 := hcc 0 (.int .u8 b[i]) (by rw [hk2]; rfl)
  rw [show i * (Kd.int .u8).sz + 0 = i from Nat.mul_one i] at h3
  refine ⟨ad, rfl, ?_⟩
  rw [h3]
  simp [List.getD_eq_getElem?_getD, List.getElem?_eq_getElem hil]
theorem byte_get {W : World} {ok : Nat → Prop} {ad : Addr} {n : Nat} {b : List Int} (h : Kd.F (Kd.int .u8) W ok (some ad) n b) (i : Nat) (hi : i < n) : W.cell? (ad.add i) = some (.int .u8 (b.getD i 0)) := by
  obtain ⟨ad', he, hc⟩ := byte_at h i hi
  cases he
  exact hc
def DVF (okd : Nat → Prop) (w : World) (d : Dk) (e : Ending) (w' : World) : Prop := (∃ A0 c0 A1 c1, e = .returned (.agg #[.slice A0 d.s.length c0, .slice A1 d.p.length c1, .int .i64 d.left, .bool d.st]) ∧ DiskF w' (fun k => okd k ∨ w.heap.size ≤ k) (.agg #[.slice A0 d.s.length c0, .slice A1 d.p.length c1, .int .i64 d.left, .bool d.st]) d) ∧ Below w.heap.size w w'
theorem DVF.of {okd : Nat → Prop} {w w' : World} {r d : Dk} {e : Ending} (h : (∃ v', e = .returned v' ∧ DiskF w' (fun k => okd k ∨ w.heap.size ≤ k) v' r) ∧ Below w.heap.size w w') (hr : d = r) : DVF okd w d e w' := by
  subst hr
  obtain ⟨⟨v, he, hd⟩, hb⟩ := h
  have hd2 := hd
  obtain ⟨A0, c0, A1, c1, rfl, -⟩ := hd2
  exact ⟨⟨A0, c0, A1, c1, he, hd⟩, hb⟩
theorem sane_facts : ∃ D2 Wd S1 L1 X : Dk, ∃ B One None_ Lost : List Int, newD 0 = (zeroD, 1) ∧ newD 2 = (D2, 0) ∧ writeD D2 1 [7] = (Wd, 0) ∧ readD Wd 1 = (B, 0) ∧ readD D2 2 = ([], 450) ∧ writeD D2 0 (zeros 129) = (zeroD, 1) ∧ stopD Wd 1 = (S1, 0) ∧ writeD S1 0 (dblD 8) = (L1, 0) ∧ syncD L1 = (X, 450) ∧
    readD (restartD X) 1 = (One, 0) ∧ readD (restartD X) 0 = (None_, 0) ∧ readD (restartD Wd) 1 = (Lost, 0) ∧ checkD zeroD = 450 ∧ (restartD zeroD).left = -1 ∧ X.st = true ∧
    (B.length = 128 ∧ One.length = 128 ∧ None_.length = 128 ∧ Lost.length = 128) ∧ B.getD 0 0 = 7 ∧ One.getD 0 0 = 7 ∧ None_.getD 0 0 = 8 ∧ None_.getD 64 0 = 0 ∧ Lost.getD 0 0 = 0 :=
  ⟨(newD 2).1, (writeD (newD 2).1 1 [7]).1, (stopD (writeD (newD 2).1 1 [7]).1 1).1, (writeD (stopD (writeD (newD 2).1 1 [7]).1 1).1 0 (dblD 8)).1, (syncD (writeD (stopD (writeD (newD 2).1 1 [7]).1 1).1 0 (dblD 8)).1).1, (readD (writeD (newD 2).1 1 [7]).1 1).1, (readD (restartD (syncD (writeD (stopD (writeD (newD 2).1 1 [7]).1 1).1 0 (dblD 8)).1).1) 1).1, (readD (restartD (syncD (writeD (stopD (writeD (newD 2).1 1 [7]).1 1).1 0 (dblD 8)).1).1) 0).1, (readD (restartD (writeD (newD 2).1 1 [7]).1) 1).1,
    by kernel_rfl, by kernel_rfl, by kernel_rfl, by kernel_rfl, by kernel_rfl, by kernel_rfl, by kernel_rfl, by kernel_rfl, by kernel_rfl, by kernel_rfl, by kernel_rfl, by kernel_rfl, by kernel_rfl, by kernel_rfl, by kernel_rfl, ⟨by kernel_rfl, by kernel_rfl, by kernel_rfl, by kernel_rfl⟩, by kernel_rfl, by kernel_rfl, by kernel_rfl, by kernel_rfl, by kernel_rfl⟩
end Go.Proofs.Ytlnmjgkeiljniaa.Q
/- sizarlaw45.sane. -/
namespace Go.Proofs.Ytlnmjgkeiljniaa.Q
open Go.RowKit Go.Proofs.YtlnmjgkeiljniaaW.PrintWords Go.Proofs.YtlnmjgkeiljniaaW.PrintLast Go.Proofs.YtlnmjgkeiljniaaW.PrintMore
set_option linter.unusedVariables false
set_option linter.unusedSimpArgs false
theorem field25 (v0 v1 v2 v3 : Value) : ∀ w : World, (Instr.field 25 (.agg #[v0, v1, v2, v3]) 2).run Try.prog w = .ok v2 w := fun _ => by kernel_rfl
set_option maxHeartbeats 8000000 in
set_option maxRecDepth 100000 in
theorem sane_says (w : World) : Calls Try.prog 17 #[] w fun e w' => e = .returned (.bool true) ∧ Below w.heap.size w w' := by
  obtain ⟨D2, Wd, S1, L1, X, B, One, Nn, Lost, f0, f2, fw, fr, fr2, fz, fs, fl, fx, fo, fn, fq, fc, fm, ft, ⟨l0, l1, l2, l3⟩, g0, g1, g2, g3, g4⟩ := sane_facts
  replace f0 := Aside0.mk f0
  replace f2 := Aside0.mk f2
  replace fw := Aside0.mk fw
  replace fr := Aside0.mk fr
  replace fr2 := Aside0.mk fr2
  replace fz := Aside0.mk fz
  replace fs := Aside0.mk fs
  replace fl := Aside0.mk fl
  replace fx := Aside0.mk fx
  replace fo := Aside0.mk fo
  replace fn := Aside0.mk fn
  replace fq := Aside0.mk fq
  replace fc := Aside0.mk fc
  replace fm := Aside0.mk fm
  replace ft := Aside0.mk ft
  replace l0 := Aside0.mk l0
  replace l1 := Aside0.mk l1
  replace l2 := Aside0.mk l2
  replace l3 := Aside0.mk l3
  replace g0 := Aside0.mk g0
  replace g1 := Aside0.mk g1
  replace g2 := Aside0.mk g2
  replace g3 := Aside0.mk g3
  replace g4 := Aside0.mk g4
  have hu25 := Try.underlying25
  have hfd := field25
  have F1_ := Aside0.mk (Below.refl w.heap.size w)
  go_enter Try.func17, Try.ntmps17
  go_upto_region 2 with (go_at_call 19; (refine ((new_says 0 _).mono (fun e w' h => DE.of h f0.out)).mono ?_); rintro e w1 ⟨⟨P0, p0, Q0, q0, rfl, hd⟩, hb⟩; have F2_ := Aside0.mk (below_step F1_.out hb); clear F1_; clear hd hb)
  have F3_ := Aside0.mk (below_alloc F2_.out (.cells #[.slice P0 zeroD.s.length p0, .slice Q0 zeroD.p.length q0, .int .i64 zeroD.left, .bool zeroD.st] 25))
  clear F2_
  generalize w1.alloc (.cells #[.slice P0 zeroD.s.length p0, .slice Q0 zeroD.p.length q0, .int .i64 zeroD.left, .bool zeroD.st] 25) = w2 at *
  generalize w1.heap.size = b1 at *
  go_upto_region 3 with (go_at_call 19; (refine ((new_says 2 _).mono (fun e w' h => DE.of h f2.out)).mono ?_); rintro e w3 ⟨⟨P2, p2, Q2, q2, rfl, hd⟩, hb⟩; have F4_ := Aside0.mk (below_step F3_.out hb); clear F3_; have F5_ := Aside0.mk (DiskV.F hd); clear hd hb)
  have F6_ := Aside0.mk (below_alloc F4_.out (.cells #[.slice P2 D2.s.length p2, .slice Q2 D2.p.length q2, .int .i64 D2.left, .bool D2.st] 25))
  have F7_ := Aside0.mk (DiskF.below F5_.out (below_alloc (Below.refl _ _) (.cells #[.slice P2 D2.s.length p2, .slice Q2 D2.p.length q2, .int .i64 D2.left, .bool D2.st] 25)))
  clear F4_ F5_
  have F8_ := Aside0.mk (blk_new w3 (.cells #[.slice P2 D2.s.length p2, .slice Q2 D2.p.length q2, .int .i64 D2.left, .bool D2.st] 25))
  generalize w3.alloc (.cells #[.slice P2 D2.s.length p2, .slice Q2 D2.p.length q2, .int .i64 D2.left, .bool D2.st] 25) = w4 at *
  generalize w3.heap.size = b3 at *
  have y0 := (blk_cell F8_.out 0).trans rfl
  have y1 := (blk_cell F8_.out 1).trans rfl
  have y2 := (blk_cell F8_.out 2).trans rfl
  have y3 := (blk_cell F8_.out 3).trans rfl
  have hseven : ∀ W : World, BytesV (W.alloc (.cells #[.int .u8 7] 5)) (.slice (some ⟨W.heap.size, 0, none⟩) 1 1) [7] := fun W => ⟨_, _, rfl, Nat.le_refl _, bytes_C0 (l := [7]) (blk_new W (.cells #[.int .u8 7] 5)) (by decide)⟩
  replace hseven := Aside0.mk hseven
  go_upto_region 4 with (go_at_call 26; (refine ((write_says _ _ D2 1 [7] _ (DiskV.below (DiskF.V F7_.out) (below_alloc (Below.refl _ _) (.cells #[.int .u8 7] 5))) (hseven.out _)).mono (fun e w' h => DE.of h fw.out)).mono ?_); rintro e w5 ⟨⟨P3, p3, Q3, q3, rfl, hd⟩, hb⟩; have F9_ := Aside0.mk (below_step (below_alloc F6_.out (.cells #[.int .u8 7] 5)) hb); have F10_ := Aside0.mk (DiskF.below (DiskF.below F7_.out (below_alloc (Below.refl _ _) (.cells #[.int .u8 7] 5))) hb); have F11_ := Aside0.mk (blk_below (blk_alloc F8_.out (.cells #[.int .u8 7] 5)) hb); clear F6_ F7_ F8_; have F12_ := Aside0.mk (DiskV.F hd); clear hd hb)
  clear y0 y1 y2 y3
  have F13_ := Aside0.mk (below_alloc F9_.out (.cells #[.slice P3 Wd.s.length p3, .slice Q3 Wd.p.length q3, .int .i64 Wd.left, .bool Wd.st] 25))
  have F14_ := Aside0.mk (DiskF.below F10_.out (below_alloc (Below.refl _ _) (.cells #[.slice P3 Wd.s.length p3, .slice Q3 Wd.p.length q3, .int .i64 Wd.left, .bool Wd.st] 25)))
  have F15_ := Aside0.mk (blk_alloc F11_.out (.cells #[.slice P3 Wd.s.length p3, .slice Q3 Wd.p.length q3, .int .i64 Wd.left, .bool Wd.st] 25))
  have F16_ := Aside0.mk (DiskF.below F12_.out (below_alloc (Below.refl _ _) (.cells #[.slice P3 Wd.s.length p3, .slice Q3 Wd.p.length q3, .int .i64 Wd.left, .bool Wd.st] 25)))
  clear F9_ F10_ F11_ F12_
  have F17_ := Aside0.mk (blk_new w5 (.cells #[.slice P3 Wd.s.length p3, .slice Q3 Wd.p.length q3, .int .i64 Wd.left, .bool Wd.st] 25))
  generalize w5.alloc (.cells #[.slice P3 Wd.s.length p3, .slice Q3 Wd.p.length q3, .int .i64 Wd.left, .bool Wd.st] 25) = w6 at *
  generalize w5.heap.size = b5 at *
  have y0 := (blk_cell F17_.out 0).trans rfl
  have y1 := (blk_cell F17_.out 1).trans rfl
  have y2 := (blk_cell F17_.out 2).trans rfl
  have y3 := (blk_cell F17_.out 3).trans rfl
  go_upto_region 5 with (go_at_call 28; (refine ((read_says _ Wd 1 _ (DiskF.V F16_.out)).mono (fun e w' h => RE.of h fr.out l0.out)).mono ?_); rintro e w7 ⟨⟨A7, c7, rfl, hc7, hd⟩, hb⟩; obtain ⟨ad7, rfl, -⟩ := byte_at hd 0 (by decide); have F18_ := Aside0.mk (below_step F13_.out hb); have F19_ := Aside0.mk (DiskF.below F14_.out hb); have F20_ := Aside0.mk (blk_below F15_.out hb); have F21_ := Aside0.mk (DiskF.below F16_.out hb); have F22_ := Aside0.mk (blk_below F17_.out hb); clear F13_ F14_ F15_ F16_ F17_; have F23_ := Aside0.mk (hd); replace hc7 := Aside0.mk hc7; clear hd hb)
  clear y0 y1 y2 y3
  have y0 := (blk_cell F20_.out 0).trans rfl
  have y1 := (blk_cell F20_.out 1).trans rfl
  have y2 := (blk_cell F20_.out 2).trans rfl
  have y3 := (blk_cell F20_.out 3).trans rfl
  go_upto_region 6 with (go_at_call 28; (refine ((read_says _ D2 2 _ (DiskF.V F19_.out)).mono (fun e w' h => RE.of h fr2.out rfl)).mono ?_); rintro e w8 ⟨⟨A9, c9, rfl, hc9, hd⟩, hb⟩; have F24_ := Aside0.mk (below_step F18_.out hb); have F25_ := Aside0.mk (DiskF.below F19_.out hb); have F26_ := Aside0.mk (blk_below F20_.out hb); have F27_ := Aside0.mk (DiskF.below F21_.out hb); have F28_ := Aside0.mk (blk_below F22_.out hb); have F29_ := Aside0.mk (Kd.F_below F23_.out hb); clear F18_ F19_ F20_ F21_ F22_ F23_; clear hd hb hc9)
  clear y0 y1 y2 y3
  have y0 := (blk_cell F26_.out 0).trans rfl
  have y1 := (blk_cell F26_.out 1).trans rfl
  have y2 := (blk_cell F26_.out 2).trans rfl
  have y3 := (blk_cell F26_.out 3).trans rfl
  obtain ⟨zs, hzs⟩ : ∃ zs, Aside0 (zs = zeros 129) := ⟨_, ⟨rfl⟩⟩
  have hmk : ∀ W : World, (Instr.makeSlice 35 (.int .i64 129) (.int .i64 129)).run Try.prog W = .ok (.slice (some ⟨W.heap.size, 0, none⟩) 129 129) (W.alloc (.cells (nums .u8 zs).toArray 5)) := fun W => by
    rw [hzs.out, show nums .u8 (zeros 129) = List.replicate 129 (.int .u8 0) by simp [nums, zeros], ← made_row]
    exact run_make_row' 35 5 (.int .u8 0) 1 Try.underlying35 info5 rfl .i64 .i64 129 (by decide) (by decide) W
  have hzB : Aside0 (∀ (W' : World) (gb : Nat), W'.heap[gb]? = some (.cells (nums .u8 zs).toArray 5 (0, 0)) → BytesV W' (.slice (some ⟨gb, 0, none⟩) 129 129) zs) := ⟨fun W' gb h => ⟨_, _, by rw [hzs.out]; rfl, by rw [hzs.out]; exact Nat.le_refl _, bytes_C0 h (by rw [hzs.out]; decide)⟩⟩
  rw [← hzs.out] at fz
  go_cut [11, 12] from 48 (fun v11 v12 wx => (∃ b : Nat, v11 = .pointer (some ⟨b, 0, none⟩)) ∧ v12 = .int .i64 1 ∧ Aside0 (Below w8.heap.size w8 wx))
  case first =>
    have hz8 := F26_.out
    refine start_ (n := 9) (S := fun w' => Below w8.drew.heap.size w8.drew w') (ds := []) #[false, false, false, false, false, false, false, false, false] (by kernel_rfl) rfl rfl (Below.refl _ _) (fun hHeld => ?_)
    have F30_ := Aside0.mk (below_drew1 F24_.out)
    have F31_ := Aside0.mk (DiskF.below F25_.out (below_drew1 (Below.refl _ _)))
    have F32_ := Aside0.mk (blk_drew F26_.out)
    have F33_ := Aside0.mk (DiskF.below F27_.out (below_drew1 (Below.refl _ _)))
    have F34_ := Aside0.mk (blk_drew F28_.out)
    have F35_ := Aside0.mk (Kd.F_drew F29_.out)
    clear F24_ F25_ F26_ F27_ F28_ F29_
    have G9 : Below w8.heap.size w8 w8.drew := below_drew1 (Below.refl _ _)
    generalize w8.drew = w9 at *
    refine take_ (i := 0) (N := some 49) (v := ?_) (a' := ?_) #[true, false, false, false, false, false, false, false, false] rfl rfl (by kernel_rfl) (fun _ _ _ h => h) (Or.inl ⟨by rfl, ?_⟩) hHeld ?_ ?_
    rotate_left
    · rintro w' s0
      have hz := blk_below F32_.out s0
      have yy0 := (blk_cell hz 0).trans rfl
      have yy1 := (blk_cell hz 1).trans rfl
      have yy2 := (blk_cell hz 2).trans rfl
      have yy3 := (blk_cell hz 3).trans rfl
      go_simp
      with_reducible rfl
    rotate_left
    · simp only [Act.put, List.setIfInBounds_toArray, List.set_cons_zero, List.set_cons_succ, i64_w, i32_w]
      rfl
    refine join_ (σ := Value × Value × Nat) 2 #[true, true, true, true, true, true, true, false, false] (fun s_ => [(50, s_.1), (51, .tuple #[s_.2.1, .int .i64 1]), (48, .tuple #[s_.2.1, .int .i64 1]), (52, s_.2.1), (53, .int .i64 1), (11, .pointer (some ⟨s_.2.2, 0, none⟩))]) (fun s_ w' => Below w9.heap.size w9 w' ∧ (∃ P9 p9 Q9 q9, s_.2.1 = (.agg #[.slice P9 zeroD.s.length p9, .slice Q9 zeroD.p.length q9, .int .i64 zeroD.left, .bool zeroD.st])) ∧ w'.heap[s_.2.2]? = some (.cells #[.slice none 0 0, .slice none 0 0, .int .i64 0, .bool false] 25 (0, 0)) ∧ w9.heap.size ≤ s_.2.2) ?_ ?_
    rotate_left
    · intro hCont
      refine two_ (i := 1) (j := 6) (Ni := some 50) (Nj := some 11) #[true, true, false, false, false, false, false, false, false] #[true, false, false, false, false, false, true, false, false] rfl rfl rfl rfl (by kernel_rfl) (by decide) (by decide) (fun K hK => ?_) (fun K hK => ?_)
      · skip
        refine value_ (w1 := ?_) (v := ?_) (by rfl) rfl ?_ ?_
        rotate_left 2
        · go_simp
          constructor
          · rfl
          · rfl
        refine hK.out _ _ (below_alloc hHeld _) (fun hHeld => ?_)
        clear hK K
        refine norm_ (a' := ?_) ?_ ?_
        rotate_left
        · show Act.put _ (some 50) _ = _
          simp only [Act.put, List.setIfInBounds_toArray, List.set_cons_zero, List.set_cons_succ, i64_w, i32_w]
          rfl
        refine two_ (i := 2) (j := 6) (Ni := some 51) (Nj := some 11) #[true, true, true, false, false, false, false, false, false] #[true, true, false, false, false, false, true, false, false] rfl rfl rfl rfl (by kernel_rfl) (by decide) (by decide) (fun K hK => ?_) (fun K hK => ?_)
        · skip
          refine goes_ Try.func26 (by kernel_rfl) rfl #[(.agg #[.slice P2 D2.s.length p2, .slice Q2 D2.p.length q2, .int .i64 D2.left, .bool D2.st]), .int .i64 0, .slice (some ⟨w9.heap.size, 0, none⟩) 129 129] (by rfl) rfl rfl (by (try simp only [List.map_toArray, List.map_cons, List.map_nil]); first | done | rfl) ?_
          refine ((write_says _ _ D2 0 zs _ (DiskV.below (DiskF.V F31_.out) hHeld) (hzB.out _ _ (blk_new w9 (.cells (nums .u8 zs).toArray 5)))).mono (fun e w' h => DE.of h fz.out)).mono ?_
          rintro e w10 ⟨⟨P9, p9, Q9, q9, rfl, hd⟩, hb⟩
          refine ⟨_, rfl, ?_⟩
          clear hd
          refine hK.out _ _ (below_step hHeld hb) (fun hHeld => ?_)
          clear hK K
          refine norm_ (a' := ?_) ?_ ?_
          rotate_left
          · show Act.put _ (some 51) _ = _
            simp only [Act.put, List.setIfInBounds_toArray, List.set_cons_zero, List.set_cons_succ, i64_w, i32_w]
            rfl
          refine pure_ (i := 3) (N := some 48) (v := ?_) (a' := ?_) #[true, true, true, true, false, false, false, false, false] rfl rfl (by kernel_rfl) (fun _ _ _ h => h) (Or.inl ⟨by rfl, ?_⟩) ?_ ?_
          rotate_left
          · intro w'
            go_simp
            with_reducible rfl
          rotate_left
          · simp only [Act.put, List.setIfInBounds_toArray, List.set_cons_zero, List.set_cons_succ, i64_w, i32_w]
            rfl
          refine pure_ (i := 4) (N := some 52) (v := ?_) (a' := ?_) #[true, true, true, true, true, false, false, false, false] rfl rfl (by kernel_rfl) (fun _ _ _ h => h) (Or.inl ⟨by rfl, ?_⟩) ?_ ?_
          rotate_left
          · intro w'
            go_simp
            with_reducible rfl
          rotate_left
          · simp only [Act.put, List.setIfInBounds_toArray, List.set_cons_zero, List.set_cons_succ, i64_w, i32_w]
            rfl
          refine pure_ (i := 5) (N := some 53) (v := ?_) (a' := ?_) #[true, true, true, true, true, true, false, false, false] rfl rfl (by kernel_rfl) (fun _ _ _ h => h) (Or.inl ⟨by rfl, ?_⟩) ?_ ?_
          rotate_left
          · intro w'
            go_simp
            with_reducible rfl
          rotate_left
          · simp only [Act.put, List.setIfInBounds_toArray, List.set_cons_zero, List.set_cons_succ, i64_w, i32_w]
            rfl
          refine one_ (i := 6) (N := some 11) #[true, true, true, true, true, true, true, false, false] rfl rfl (by kernel_rfl) (by decide) (fun K hK => ?_)
          refine value_ (w1 := ?_) (v := ?_) (by rfl) rfl ?_ ?_
          rotate_left 2
          · go_simp
            constructor
            · rfl
            · rfl
          refine hK.out _ _ (below_alloc hHeld _) (fun hHeld => ?_)
          clear hK K
          refine norm_ (a' := ?_) ?_ ?_
          rotate_left
          · show Act.put _ (some 11) _ = _
            simp only [Act.put, List.setIfInBounds_toArray, List.set_cons_zero, List.set_cons_succ, i64_w, i32_w]
            rfl
          exact norm_ (by simp only [putAll, Act.put, List.setIfInBounds_toArray, List.set_cons_zero, List.set_cons_succ]) (hCont (.slice (some ⟨w9.heap.size, 0, none⟩) 129 129, (.agg #[.slice P9 zeroD.s.length p9, .slice Q9 zeroD.p.length q9, .int .i64 zeroD.left, .bool zeroD.st]), w10.heap.size) _ ⟨hHeld, ⟨P9, p9, Q9, q9, rfl⟩, blk_new w10 (.cells #[.slice none 0 0, .slice none 0 0, .int .i64 0, .bool false] 25), (Nat.le_trans (by simp) hb.size)⟩)
        · skip
          refine value_ (w1 := ?_) (v := ?_) (by rfl) rfl ?_ ?_
          rotate_left 2
          · go_simp
            constructor
            · rfl
            · rfl
          refine hK.out _ _ (below_alloc hHeld _) (fun hHeld => ?_)
          clear hK K
          refine norm_ (a' := ?_) ?_ ?_
          rotate_left
          · show Act.put _ (some 11) _ = _
            simp only [Act.put, List.setIfInBounds_toArray, List.set_cons_zero, List.set_cons_succ, i64_w, i32_w]
            rfl
          refine one_ (i := 2) (N := some 51) #[true, true, true, false, false, false, true, false, false] rfl rfl (by kernel_rfl) (by decide) (fun K hK => ?_)
          refine goes_ Try.func26 (by kernel_rfl) rfl #[(.agg #[.slice P2 D2.s.length p2, .slice Q2 D2.p.length q2, .int .i64 D2.left, .bool D2.st]), .int .i64 0, .slice (some ⟨w9.heap.size, 0, none⟩) 129 129] (by rfl) rfl rfl (by (try simp only [List.map_toArray, List.map_cons, List.map_nil]); first | done | rfl) ?_
          refine ((write_says _ _ D2 0 zs _ (DiskV.below (DiskF.V F31_.out) hHeld) (hzB.out _ _ (blk_alloc (blk_new w9 (.cells (nums .u8 zs).toArray 5)) (.cells #[.slice none 0 0, .slice none 0 0, .int .i64 0, .bool false] 25)))).mono (fun e w' h => DE.of h fz.out)).mono ?_
          rintro e w10 ⟨⟨P9, p9, Q9, q9, rfl, hd⟩, hb⟩
          refine ⟨_, rfl, ?_⟩
          clear hd
          refine hK.out _ _ (below_step hHeld hb) (fun hHeld => ?_)
          clear hK K
          refine norm_ (a' := ?_) ?_ ?_
          rotate_left
          · show Act.put _ (some 51) _ = _
            simp only [Act.put, List.setIfInBounds_toArray, List.set_cons_zero, List.set_cons_succ, i64_w, i32_w]
            rfl
          refine pure_ (i := 3) (N := some 48) (v := ?_) (a' := ?_) #[true, true, true, true, false, false, true, false, false] rfl rfl (by kernel_rfl) (fun _ _ _ h => h) (Or.inl ⟨by rfl, ?_⟩) ?_ ?_
          rotate_left
          · intro w'
            go_simp
            with_reducible rfl
          rotate_left
          · simp only [Act.put, List.setIfInBounds_toArray, List.set_cons_zero, List.set_cons_succ, i64_w, i32_w]
            rfl
          refine pure_ (i := 4) (N := some 52) (v := ?_) (a' := ?_) #[true, true, true, true, true, false, true, false, false] rfl rfl (by kernel_rfl) (fun _ _ _ h => h) (Or.inl ⟨by rfl, ?_⟩) ?_ ?_
          rotate_left
          · intro w'
            go_simp
            with_reducible rfl
          rotate_left
          · simp only [Act.put, List.setIfInBounds_toArray, List.set_cons_zero, List.set_cons_succ, i64_w, i32_w]
            rfl
          refine pure_ (i := 5) (N := some 53) (v := ?_) (a' := ?_) #[true, true, true, true, true, true, true, false, false] rfl rfl (by kernel_rfl) (fun _ _ _ h => h) (Or.inl ⟨by rfl, ?_⟩) ?_ ?_
          rotate_left
          · intro w'
            go_simp
            with_reducible rfl
          rotate_left
          · simp only [Act.put, List.setIfInBounds_toArray, List.set_cons_zero, List.set_cons_succ, i64_w, i32_w]
            rfl
          exact norm_ (by simp only [putAll, Act.put, List.setIfInBounds_toArray, List.set_cons_zero, List.set_cons_succ]) (hCont (.slice (some ⟨w9.heap.size, 0, none⟩) 129 129, (.agg #[.slice P9 zeroD.s.length p9, .slice Q9 zeroD.p.length q9, .int .i64 zeroD.left, .bool zeroD.st]), w9.heap.size + 1) _ ⟨hHeld, ⟨P9, p9, Q9, q9, rfl⟩, (by have h_ := blk_below (blk_new (w9.alloc (.cells (nums .u8 zs).toArray 5)) (.cells #[.slice none 0 0, .slice none 0 0, .int .i64 0, .bool false] 25)) hb; rw [World.size_alloc] at h_; exact h_), (Nat.le_succ _)⟩)
      · skip
        refine value_ (w1 := ?_) (v := ?_) (by rfl) rfl ?_ ?_
        rotate_left 2
        · go_simp
          constructor
          · rfl
          · rfl
        refine hK.out _ _ (below_alloc hHeld _) (fun hHeld => ?_)
        clear hK K
        refine norm_ (a' := ?_) ?_ ?_
        rotate_left
        · show Act.put _ (some 11) _ = _
          simp only [Act.put, List.setIfInBounds_toArray, List.set_cons_zero, List.set_cons_succ, i64_w, i32_w]
          rfl
        refine one_ (i := 1) (N := some 50) #[true, true, false, false, false, false, true, false, false] rfl rfl (by kernel_rfl) (by decide) (fun K hK => ?_)
        refine value_ (w1 := ?_) (v := ?_) (by rfl) rfl ?_ ?_
        rotate_left 2
        · go_simp
          constructor
          · rfl
          · rfl
        refine hK.out _ _ (below_alloc hHeld _) (fun hHeld => ?_)
        clear hK K
        refine norm_ (a' := ?_) ?_ ?_
        rotate_left
        · show Act.put _ (some 50) _ = _
          simp only [Act.put, List.setIfInBounds_toArray, List.set_cons_zero, List.set_cons_succ, i64_w, i32_w]
          rfl
        refine one_ (i := 2) (N := some 51) #[true, true, true, false, false, false, true, false, false] rfl rfl (by kernel_rfl) (by decide) (fun K hK => ?_)
        refine goes_ Try.func26 (by kernel_rfl) rfl #[(.agg #[.slice P2 D2.s.length p2, .slice Q2 D2.p.length q2, .int .i64 D2.left, .bool D2.st]), .int .i64 0, .slice (some ⟨w9.heap.size + 1, 0, none⟩) 129 129] (by rfl) rfl rfl (by (try simp only [List.map_toArray, List.map_cons, List.map_nil]); first | done | rfl) ?_
        refine ((write_says _ _ D2 0 zs _ (DiskV.below (DiskF.V F31_.out) hHeld) (hzB.out _ _ (by have h_ := blk_new (w9.alloc (.cells #[.slice none 0 0, .slice none 0 0, .int .i64 0, .bool false] 25)) (.cells (nums .u8 zs).toArray 5); rw [World.size_alloc] at h_; exact h_))).mono (fun e w' h => DE.of h fz.out)).mono ?_
        rintro e w10 ⟨⟨P9, p9, Q9, q9, rfl, hd⟩, hb⟩
        refine ⟨_, rfl, ?_⟩
        clear hd
        refine hK.out _ _ (below_step hHeld hb) (fun hHeld => ?_)
        clear hK K
        refine norm_ (a' := ?_) ?_ ?_
        rotate_left
        · show Act.put _ (some 51) _ = _
          simp only [Act.put, List.setIfInBounds_toArray, List.set_cons_zero, List.set_cons_succ, i64_w, i32_w]
          rfl
        refine pure_ (i := 3) (N := some 48) (v := ?_) (a' := ?_) #[true, true, true, true, false, false, true, false, false] rfl rfl (by kernel_rfl) (fun _ _ _ h => h) (Or.inl ⟨by rfl, ?_⟩) ?_ ?_
        rotate_left
        · intro w'
          go_simp
          with_reducible rfl
        rotate_left
        · simp only [Act.put, List.setIfInBounds_toArray, List.set_cons_zero, List.set_cons_succ, i64_w, i32_w]
          rfl
        refine pure_ (i := 4) (N := some 52) (v := ?_) (a' := ?_) #[true, true, true, true, true, false, true, false, false] rfl rfl (by kernel_rfl) (fun _ _ _ h => h) (Or.inl ⟨by rfl, ?_⟩) ?_ ?_
        rotate_left
        · intro w'
          go_simp
          with_reducible rfl
        rotate_left
        · simp only [Act.put, List.setIfInBounds_toArray, List.set_cons_zero, List.set_cons_succ, i64_w, i32_w]
          rfl
        refine pure_ (i := 5) (N := some 53) (v := ?_) (a' := ?_) #[true, true, true, true, true, true, true, false, false] rfl rfl (by kernel_rfl) (fun _ _ _ h => h) (Or.inl ⟨by rfl, ?_⟩) ?_ ?_
        rotate_left
        · intro w'
          go_simp
          with_reducible rfl
        rotate_left
        · simp only [Act.put, List.setIfInBounds_toArray, List.set_cons_zero, List.set_cons_succ, i64_w, i32_w]
          rfl
        exact norm_ (by simp only [putAll, Act.put, List.setIfInBounds_toArray, List.set_cons_zero, List.set_cons_succ]) (hCont (.slice (some ⟨w9.heap.size + 1, 0, none⟩) 129 129, (.agg #[.slice P9 zeroD.s.length p9, .slice Q9 zeroD.p.length q9, .int .i64 zeroD.left, .bool zeroD.st]), w9.heap.size) _ ⟨hHeld, ⟨P9, p9, Q9, q9, rfl⟩, (blk_below (blk_alloc (blk_new w9 (.cells #[.slice none 0 0, .slice none 0 0, .int .i64 0, .bool false] 25)) (.cells (nums .u8 zs).toArray 5)) hb), (Nat.le_refl _)⟩)
    rintro ⟨v50, v51, b11⟩ w10 ⟨hHeld, ⟨P9, p9, Q9, q9, hs⟩, hbx, hle⟩
    dsimp only at hs hbx hle
    subst hs
    refine norm_ (a' := ?_) ?_ ?_
    rotate_left
    · simp only [putAll, Act.put, List.setIfInBounds_toArray, List.set_cons_zero, List.set_cons_succ]
      rfl
    have bz0 := (blk_cell hbx 0).trans rfl
    have bf0 := blk_frozen hbx 0
    have bz1 := (blk_cell hbx 1).trans rfl
    have bf1 := blk_frozen hbx 1
    have bz2 := (blk_cell hbx 2).trans rfl
    have bf2 := blk_frozen hbx 2
    have bz3 := (blk_cell hbx 3).trans rfl
    have bf3 := blk_frozen hbx 3
    refine one_ (i := 7) (N := none) #[true, true, true, true, true, true, true, true, false] rfl rfl (by kernel_rfl) (by decide) (fun K hK => ?_)
    refine skip_ (w1 := ?_) (by rfl) rfl ?_ ?_
    rotate_left
    · go_simp
      rfl
    refine hK.out _ _ (by repeat (first | exact hHeld | refine below_set ?_ hle)) (fun hHeld => ?_)
    clear hK K
    refine pure_ (i := 8) (N := some 12) (v := ?_) (a' := ?_) #[true, true, true, true, true, true, true, true, true] rfl rfl (by kernel_rfl) (fun _ _ _ h => h) (Or.inl ⟨by rfl, ?_⟩) ?_ ?_
    rotate_left
    · intro w'
      go_simp
      with_reducible rfl
    rotate_left
    · simp only [Act.put, List.setIfInBounds_toArray, List.set_cons_zero, List.set_cons_succ, i64_w, i32_w]
      rfl
    refine done_ (by kernel_rfl) ?_
    go_wp2_with fail
    go_meet
    exact ⟨⟨_, rfl⟩, rfl, ⟨below_step G9 hHeld⟩⟩
  obtain ⟨⟨b11, rfl⟩, rfl, hcb⟩ := hcut
  clear y0 y1 y2 y3
  have F36_ := Aside0.mk (below_step F24_.out hcb.out)
  have F37_ := Aside0.mk (DiskF.below F25_.out hcb.out)
  have F38_ := Aside0.mk (blk_below F26_.out hcb.out)
  have F39_ := Aside0.mk (DiskF.below F27_.out hcb.out)
  have F40_ := Aside0.mk (blk_below F28_.out hcb.out)
  have F41_ := Aside0.mk (Kd.F_below F29_.out hcb.out)
  clear F24_ F25_ F26_ F27_ F28_ F29_
  clear hcb hmk hzB hzs fz
  clear F38_ F37_
  generalize wc = w10 at *
  have y0 := (blk_cell F40_.out 0).trans rfl
  have y1 := (blk_cell F40_.out 1).trans rfl
  have y2 := (blk_cell F40_.out 2).trans rfl
  have y3 := (blk_cell F40_.out 3).trans rfl
  go_upto_region 8 with (go_at_call 32; (refine ((stop_says _ Wd 1 _ (DiskF.V F39_.out)).mono (fun e w' h => DE.of h fs.out)).mono ?_); rintro e w11 ⟨⟨P5, p5, Q5, q5, rfl, hd⟩, hb⟩; have F42_ := Aside0.mk (below_step F36_.out hb); have F43_ := Aside0.mk (DiskF.below F39_.out hb); have F44_ := Aside0.mk (blk_below F40_.out hb); have F45_ := Aside0.mk (Kd.F_below F41_.out hb); clear F36_ F39_ F40_ F41_; have F46_ := Aside0.mk (DiskV.F hd); clear hd hb)
  clear y0 y1 y2 y3
  have F47_ := Aside0.mk (DiskF.mono (ok' := fun k => k < w11.heap.size) (DiskF.bound F43_.out) (fun k hk => hk.2))
  clear F43_
  have F48_ := Aside0.mk (Kd.F_mono (ok' := fun k => k < w11.heap.size) (Kd.F_bound F45_.out) (fun k hk => hk.2))
  clear F45_
  have F49_ := Aside0.mk (DiskF.mono (ok' := fun k => k < w11.heap.size) (DiskF.bound F46_.out) (fun k hk => hk.2))
  clear F46_
  have lt5 := Aside0.mk (blk_lt F44_.out)
  have le13 := Aside0.mk (Below.size F42_.out)
  have F50_ := Aside0.mk (below_alloc F42_.out (.cells #[.slice P5 S1.s.length p5, .slice Q5 S1.p.length q5, .int .i64 S1.left, .bool S1.st] 25))
  have F51_ := Aside0.mk (DiskF.below F47_.out (below_alloc (Below.refl _ _) (.cells #[.slice P5 S1.s.length p5, .slice Q5 S1.p.length q5, .int .i64 S1.left, .bool S1.st] 25)))
  have F52_ := Aside0.mk (blk_alloc F44_.out (.cells #[.slice P5 S1.s.length p5, .slice Q5 S1.p.length q5, .int .i64 S1.left, .bool S1.st] 25))
  have F53_ := Aside0.mk (Kd.F_alloc F48_.out (.cells #[.slice P5 S1.s.length p5, .slice Q5 S1.p.length q5, .int .i64 S1.left, .bool S1.st] 25))
  have F54_ := Aside0.mk (DiskF.below F49_.out (below_alloc (Below.refl _ _) (.cells #[.slice P5 S1.s.length p5, .slice Q5 S1.p.length q5, .int .i64 S1.left, .bool S1.st] 25)))
  clear F42_ F47_ F44_ F48_ F49_
  have F55_ := Aside0.mk (blk_new w11 (.cells #[.slice P5 S1.s.length p5, .slice Q5 S1.p.length q5, .int .i64 S1.left, .bool S1.st] 25))
  generalize w11.alloc (.cells #[.slice P5 S1.s.length p5, .slice Q5 S1.p.length q5, .int .i64 S1.left, .bool S1.st] 25) = w12 at *
  generalize w11.heap.size = b13 at *
  have y0 := (blk_cell F55_.out 0).trans rfl
  have y1 := (blk_cell F55_.out 1).trans rfl
  have y2 := (blk_cell F55_.out 2).trans rfl
  have y3 := (blk_cell F55_.out 3).trans rfl
  refine start_ (n := 8) (S := fun w' => Below w12.drew.heap.size w12.drew w') (ds := [6]) #[false, false, false, false, false, false, false, false] (by kernel_rfl) rfl rfl (Below.refl _ _) (fun hHeld => ?_)
  have F56_ := Aside0.mk (below_drew1 F50_.out)
  have F57_ := Aside0.mk (DiskF.below F51_.out (below_drew1 (Below.refl _ _)))
  have F58_ := Aside0.mk (blk_drew F52_.out)
  have F59_ := Aside0.mk (Kd.F_drew F53_.out)
  have F60_ := Aside0.mk (DiskF.below F54_.out (below_drew1 (Below.refl _ _)))
  have F61_ := Aside0.mk (blk_drew F55_.out)
  clear F50_ F51_ F52_ F53_ F54_ F55_
  generalize w12.drew = w13 at *
  refine take_ (i := 0) (N := some 60) (v := ?_) (a' := ?_) #[true, false, false, false, false, false, false, false] rfl rfl (by kernel_rfl) (fun _ _ _ h => h) (Or.inl ⟨by rfl, ?_⟩) hHeld ?_ ?_
  rotate_left
  · rintro w' s0
    have hz := blk_below F61_.out s0
    have yy0 := (blk_cell hz 0).trans rfl
    have yy1 := (blk_cell hz 1).trans rfl
    have yy2 := (blk_cell hz 2).trans rfl
    have yy3 := (blk_cell hz 3).trans rfl
    go_simp
    with_reducible rfl
  rotate_left
  · simp only [Act.put, List.setIfInBounds_toArray, List.set_cons_zero, List.set_cons_succ, i64_w, i32_w]
    rfl
  refine one_ (i := 1) (N := some 61) #[true, true, false, false, false, false, false, false] rfl rfl (by kernel_rfl) (by decide) (fun K hK => ?_)
  refine goes_ Try.func42 (by kernel_rfl) rfl #[.int .u8 8] (by rfl) rfl rfl (by (try simp only [List.map_toArray, List.map_cons, List.map_nil]); first | done | rfl) ?_
  refine (double_says 8 _).mono ?_
  rintro e w14 ⟨⟨v61, rfl, hd⟩, hb⟩
  refine ⟨_, rfl, ?_⟩
  refine hK.out _ _ (below_step hHeld hb) (fun hHeld => ?_)
  clear hK K
  refine norm_ (a' := ?_) ?_ ?_
  rotate_left
  · show Act.put _ (some 61) _ = _
    simp only [Act.put, List.setIfInBounds_toArray, List.set_cons_zero, List.set_cons_succ, i64_w, i32_w]
    rfl
  have F62_ := Aside0.mk (below_step F56_.out hb)
  have F63_ := Aside0.mk (DiskF.below F57_.out hb)
  have F64_ := Aside0.mk (blk_below F58_.out hb)
  have F65_ := Aside0.mk (Kd.F_below F59_.out hb)
  have F66_ := Aside0.mk (DiskF.below F60_.out hb)
  have F67_ := Aside0.mk (blk_below F61_.out hb)
  clear F56_ F57_ F58_ F59_ F60_ F61_
  have hby := Aside0.mk hd
  clear hd hb
  refine one_ (i := 2) (N := some 62) #[true, true, true, false, false, false, false, false] rfl rfl (by kernel_rfl) (by decide) (fun K hK => ?_)
  refine goes_ Try.func26 (by kernel_rfl) rfl #[(.agg #[.slice P5 S1.s.length p5, .slice Q5 S1.p.length q5, .int .i64 S1.left, .bool S1.st]), .int .i64 0, v61] (by rfl) rfl rfl (by (try simp only [List.map_toArray, List.map_cons, List.map_nil]); first | done | rfl) ?_
  refine ((writeF_says _ _ _ S1 0 (dblD 8) _ F66_.out hby.out).mono (fun e w' h => DEF.of h fl.out)).mono ?_
  rintro e w15 ⟨⟨P6, p6, Q6, q6, rfl, hd⟩, hb⟩
  refine ⟨_, rfl, ?_⟩
  refine hK.out _ _ (below_step hHeld hb) (fun hHeld => ?_)
  clear hK K
  refine norm_ (a' := ?_) ?_ ?_
  rotate_left
  · show Act.put _ (some 62) _ = _
    simp only [Act.put, List.setIfInBounds_toArray, List.set_cons_zero, List.set_cons_succ, i64_w, i32_w]
    rfl
  have lt14 := blk_lt F67_.out
  have F68_ := Aside0.mk (below_step F62_.out hb)
  have F69_ := Aside0.mk (DiskF.below F63_.out hb)
  have F70_ := Aside0.mk (blk_below F64_.out hb)
  have F71_ := Aside0.mk (Kd.F_below F65_.out hb)
  have F72_ := Aside0.mk (DiskF.below F66_.out hb)
  have F73_ := Aside0.mk (blk_below F67_.out hb)
  clear F62_ F63_ F64_ F65_ F66_ F67_
  have F74_ := Aside0.mk (DiskF.mono (ok' := fun k => k ≠ b13) hd (fun k hk => by dsimp only at hk ⊢; omega))
  clear hd hb hby lt14
  clear F72_
  refine pure_ (i := 3) (N := some 59) (v := ?_) (a' := ?_) #[true, true, true, true, false, false, false, false] rfl rfl (by kernel_rfl) (fun _ _ _ h => h) (Or.inl ⟨by rfl, ?_⟩) ?_ ?_
  rotate_left
  · intro w'
    go_simp
    with_reducible rfl
  rotate_left
  · simp only [Act.put, List.setIfInBounds_toArray, List.set_cons_zero, List.set_cons_succ, i64_w, i32_w]
    rfl
  refine pure_ (i := 4) (N := some 63) (v := ?_) (a' := ?_) #[true, true, true, true, true, false, false, false] rfl rfl (by kernel_rfl) (fun _ _ _ h => h) (Or.inl ⟨by rfl, ?_⟩) ?_ ?_
  rotate_left
  · intro w'
    go_simp
    with_reducible rfl
  rotate_left
  · simp only [Act.put, List.setIfInBounds_toArray, List.set_cons_zero, List.set_cons_succ, i64_w, i32_w]
    rfl
  refine pure_ (i := 5) (N := some 64) (v := ?_) (a' := ?_) #[true, true, true, true, true, true, false, false] rfl rfl (by kernel_rfl) (fun _ _ _ h => h) (Or.inl ⟨by rfl, ?_⟩) ?_ ?_
  rotate_left
  · intro w'
    go_simp
    with_reducible rfl
  rotate_left
  · simp only [Act.put, List.setIfInBounds_toArray, List.set_cons_zero, List.set_cons_succ, i64_w, i32_w]
    rfl
  have bz0 := (blk_cell F73_.out 0).trans rfl
  have bf0 := blk_frozen F73_.out 0
  have bz1 := (blk_cell F73_.out 1).trans rfl
  have bf1 := blk_frozen F73_.out 1
  have bz2 := (blk_cell F73_.out 2).trans rfl
  have bf2 := blk_frozen F73_.out 2
  have bz3 := (blk_cell F73_.out 3).trans rfl
  have bf3 := blk_frozen F73_.out 3
  refine last_ (i := 6) (N := none) #[true, true, true, true, true, true, true, false] rfl rfl (by kernel_rfl) (by decide) (fun K hK => ?_)
  refine skip_ (w1 := ?_) (by rfl) rfl ?_ ?_
  rotate_left
  · go_simp
    rfl
  refine hK.out _ _ ?_
  clear hK K
  have F75_ := Aside0.mk (Below.setCell (p := ⟨b13, 3, none⟩) (Below.setCell (p := ⟨b13, 2, none⟩) (Below.setCell (p := ⟨b13, 1, none⟩) (Below.setCell (p := ⟨b13, 0, none⟩) F68_.out le13.out (.slice P6 L1.s.length p6)) le13.out (.slice Q6 L1.p.length q6)) le13.out (.int .i64 L1.left)) le13.out (.bool L1.st))
  have F76_ := Aside0.mk (DiskF.far (DiskF.far (DiskF.far (DiskF.far F69_.out (p := ⟨b13, 0, none⟩) (fun k_ hk_ => by dsimp only at hk_ ⊢; omega) (.slice P6 L1.s.length p6)) (p := ⟨b13, 1, none⟩) (fun k_ hk_ => by dsimp only at hk_ ⊢; omega) (.slice Q6 L1.p.length q6)) (p := ⟨b13, 2, none⟩) (fun k_ hk_ => by dsimp only at hk_ ⊢; omega) (.int .i64 L1.left)) (p := ⟨b13, 3, none⟩) (fun k_ hk_ => by dsimp only at hk_ ⊢; omega) (.bool L1.st))
  have F77_ := Aside0.mk (blk_far (blk_far (blk_far (blk_far F70_.out (p := ⟨b13, 0, none⟩) (by have := lt5.out; simp; omega) (.slice P6 L1.s.length p6)) (p := ⟨b13, 1, none⟩) (by have := lt5.out; simp; omega) (.slice Q6 L1.p.length q6)) (p := ⟨b13, 2, none⟩) (by have := lt5.out; simp; omega) (.int .i64 L1.left)) (p := ⟨b13, 3, none⟩) (by have := lt5.out; simp; omega) (.bool L1.st))
  have F78_ := Aside0.mk (Kd.F_far (Kd.F_far (Kd.F_far (Kd.F_far F71_.out (p := ⟨b13, 0, none⟩) (fun k_ hk_ => by dsimp only at hk_ ⊢; omega) (.slice P6 L1.s.length p6)) (p := ⟨b13, 1, none⟩) (fun k_ hk_ => by dsimp only at hk_ ⊢; omega) (.slice Q6 L1.p.length q6)) (p := ⟨b13, 2, none⟩) (fun k_ hk_ => by dsimp only at hk_ ⊢; omega) (.int .i64 L1.left)) (p := ⟨b13, 3, none⟩) (fun k_ hk_ => by dsimp only at hk_ ⊢; omega) (.bool L1.st))
  have F79_ := Aside0.mk (blk_set (blk_set (blk_set (blk_set F73_.out 0 (.slice P6 L1.s.length p6)) 1 (.slice Q6 L1.p.length q6)) 2 (.int .i64 L1.left)) 3 (.bool L1.st))
  have F80_ := Aside0.mk (DiskF.far (DiskF.far (DiskF.far (DiskF.far F74_.out (p := ⟨b13, 0, none⟩) (fun k_ hk_ => by dsimp only at hk_ ⊢; omega) (.slice P6 L1.s.length p6)) (p := ⟨b13, 1, none⟩) (fun k_ hk_ => by dsimp only at hk_ ⊢; omega) (.slice Q6 L1.p.length q6)) (p := ⟨b13, 2, none⟩) (fun k_ hk_ => by dsimp only at hk_ ⊢; omega) (.int .i64 L1.left)) (p := ⟨b13, 3, none⟩) (fun k_ hk_ => by dsimp only at hk_ ⊢; omega) (.bool L1.st))
  clear F68_ F69_ F70_ F71_ F73_ F74_
  replace F79_ := Aside0.mk (show ((((w15.setCell ⟨b13, 0, none⟩ (.slice P6 L1.s.length p6)).setCell ⟨b13, 1, none⟩ (.slice Q6 L1.p.length q6)).setCell ⟨b13, 2, none⟩ (.int .i64 L1.left)).setCell ⟨b13, 3, none⟩ (.bool L1.st)).heap[b13]? = some (.cells #[.slice P6 L1.s.length p6, .slice Q6 L1.p.length q6, .int .i64 L1.left, .bool L1.st] 25 (0, 0)) from F79_.out)
  generalize ((((w15.setCell ⟨b13, 0, none⟩ (.slice P6 L1.s.length p6)).setCell ⟨b13, 1, none⟩ (.slice Q6 L1.p.length q6)).setCell ⟨b13, 2, none⟩ (.int .i64 L1.left)).setCell ⟨b13, 3, none⟩ (.bool L1.st)) = w16 at *
  clear bz0 bz1 bz2 bz3 bf0 bf1 bf2 bf3
  refine pure_ (i := 7) (N := some 15) (v := ?_) (a' := ?_) #[true, true, true, true, true, true, true, true] rfl rfl (by kernel_rfl) (fun _ _ _ h => h) (Or.inl ⟨by rfl, ?_⟩) ?_ ?_
  rotate_left
  · intro w'
    go_simp
    with_reducible rfl
  rotate_left
  · simp only [Act.put, List.setIfInBounds_toArray, List.set_cons_zero, List.set_cons_succ, i64_w, i32_w]
    rfl
  refine done_ (by kernel_rfl) ?_
  clear y0 y1 y2 y3
  have y0 := (blk_cell F79_.out 0).trans rfl
  have y1 := (blk_cell F79_.out 1).trans rfl
  have y2 := (blk_cell F79_.out 2).trans rfl
  have y3 := (blk_cell F79_.out 3).trans rfl
  go_upto_region 10 with (go_at_call 30; (refine ((sync_says _ L1 _ (DiskF.V F80_.out)).mono (fun e w' h => DE.of h fx.out)).mono ?_); rintro e w17 ⟨⟨P7, p7, Q7, q7, rfl, hd⟩, hb⟩; have F81_ := Aside0.mk (below_step F75_.out hb); have F82_ := Aside0.mk (DiskF.below F76_.out hb); have F83_ := Aside0.mk (blk_below F77_.out hb); have F84_ := Aside0.mk (Kd.F_below F78_.out hb); have F85_ := Aside0.mk (blk_below F79_.out hb); have F86_ := Aside0.mk (DiskF.below F80_.out hb); clear F75_ F76_ F77_ F78_ F79_ F80_; have F87_ := Aside0.mk (DiskV.F hd); clear hd hb; rw [ft.out] at *)
  clear y0 y1 y2 y3
  clear F85_ F86_
  have F88_ := Aside0.mk (DiskF.mono (ok' := fun k => k < w17.heap.size) (DiskF.bound F82_.out) (fun k hk => hk.2))
  clear F82_
  have F89_ := Aside0.mk (Kd.F_mono (ok' := fun k => k < w17.heap.size) (Kd.F_bound F84_.out) (fun k hk => hk.2))
  clear F84_
  have F90_ := Aside0.mk (DiskF.mono (ok' := fun k => k < w17.heap.size) (DiskF.bound F87_.out) (fun k hk => hk.2))
  clear F87_
  have lt16 := Aside0.mk (blk_lt F83_.out)
  have le16 := Aside0.mk (Below.size F81_.out)
  have F91_ := Aside0.mk (below_alloc F81_.out (.cells #[.slice P7 X.s.length p7, .slice Q7 X.p.length q7, .int .i64 X.left, .bool true] 25))
  have F92_ := Aside0.mk (DiskF.below F88_.out (below_alloc (Below.refl _ _) (.cells #[.slice P7 X.s.length p7, .slice Q7 X.p.length q7, .int .i64 X.left, .bool true] 25)))
  have F93_ := Aside0.mk (blk_alloc F83_.out (.cells #[.slice P7 X.s.length p7, .slice Q7 X.p.length q7, .int .i64 X.left, .bool true] 25))
  have F94_ := Aside0.mk (Kd.F_alloc F89_.out (.cells #[.slice P7 X.s.length p7, .slice Q7 X.p.length q7, .int .i64 X.left, .bool true] 25))
  have F95_ := Aside0.mk (DiskF.below F90_.out (below_alloc (Below.refl _ _) (.cells #[.slice P7 X.s.length p7, .slice Q7 X.p.length q7, .int .i64 X.left, .bool true] 25)))
  clear F81_ F88_ F83_ F89_ F90_
  have F96_ := Aside0.mk (blk_new w17 (.cells #[.slice P7 X.s.length p7, .slice Q7 X.p.length q7, .int .i64 X.left, .bool true] 25))
  generalize w17.alloc (.cells #[.slice P7 X.s.length p7, .slice Q7 X.p.length q7, .int .i64 X.left, .bool true] 25) = w18 at *
  generalize w17.heap.size = b16 at *
  have y0 := (blk_cell F96_.out 0).trans rfl
  have y1 := (blk_cell F96_.out 1).trans rfl
  have y2 := (blk_cell F96_.out 2).trans rfl
  have y3 := (blk_cell F96_.out 3).trans rfl
  go_upto_region 12 with (fail)
  obtain ⟨XR, hXR⟩ : ∃ x, Aside0 (x = restartD X) := ⟨_, ⟨rfl⟩⟩
  obtain ⟨WR, hWR⟩ : ∃ x, Aside0 (x = restartD Wd) := ⟨_, ⟨rfl⟩⟩
  rw [← hXR.out] at fo fn
  rw [← hWR.out] at fq
  have yf0 := blk_frozen F96_.out 0
  have yf1 := blk_frozen F96_.out 1
  have yf2 := blk_frozen F96_.out 2
  have yf3 := blk_frozen F96_.out 3
  have lt16c := Aside0.mk (blk_lt F96_.out)
  go_upto_region 13 with (go_at_call 24; (refine ((restartF_says _ _ X _ F95_.out).mono (fun e w' h => DVF.of h hXR.out)).mono ?_); rintro e w19 ⟨⟨P8, p8, Q8, q8, rfl, hd⟩, hb⟩; have F97_ := Aside0.mk (below_step F91_.out hb); have F98_ := Aside0.mk (DiskF.below F92_.out hb); have F99_ := Aside0.mk (blk_below F93_.out hb); have F100_ := Aside0.mk (Kd.F_below F94_.out hb); have F101_ := Aside0.mk (DiskF.below F95_.out hb); have F102_ := Aside0.mk (blk_below F96_.out hb); clear F91_ F92_ F93_ F94_ F95_ F96_; have F103_ := Aside0.mk (DiskF.mono (ok' := fun k => k ≠ b16) hd (fun k hk => by dsimp only at hk ⊢; have := lt16c.out; omega)); clear hd hb; clear y0 yf0 y1 yf1 y2 yf2 y3 yf3; have y0 := (blk_cell F102_.out 0).trans rfl; have yf0 := blk_frozen F102_.out 0; have y1 := (blk_cell F102_.out 1).trans rfl; have yf1 := blk_frozen F102_.out 1; have y2 := (blk_cell F102_.out 2).trans rfl; have yf2 := blk_frozen F102_.out 2; have y3 := (blk_cell F102_.out 3).trans rfl; have yf3 := blk_frozen F102_.out 3)
  clear y0 yf0 y1 yf1 y2 yf2 y3 yf3
  clear F101_
  have F104_ := Aside0.mk (Below.setCell (p := ⟨b16, 3, none⟩) (Below.setCell (p := ⟨b16, 2, none⟩) (Below.setCell (p := ⟨b16, 1, none⟩) (Below.setCell (p := ⟨b16, 0, none⟩) F97_.out le16.out (.slice P8 XR.s.length p8)) le16.out (.slice Q8 XR.p.length q8)) le16.out (.int .i64 XR.left)) le16.out (.bool XR.st))
  have F105_ := Aside0.mk (DiskF.far (DiskF.far (DiskF.far (DiskF.far F98_.out (p := ⟨b16, 0, none⟩) (fun k_ hk_ => by dsimp only at hk_ ⊢; omega) (.slice P8 XR.s.length p8)) (p := ⟨b16, 1, none⟩) (fun k_ hk_ => by dsimp only at hk_ ⊢; omega) (.slice Q8 XR.p.length q8)) (p := ⟨b16, 2, none⟩) (fun k_ hk_ => by dsimp only at hk_ ⊢; omega) (.int .i64 XR.left)) (p := ⟨b16, 3, none⟩) (fun k_ hk_ => by dsimp only at hk_ ⊢; omega) (.bool XR.st))
  have F106_ := Aside0.mk (blk_far (blk_far (blk_far (blk_far F99_.out (p := ⟨b16, 0, none⟩) (by have := lt16.out; simp; omega) (.slice P8 XR.s.length p8)) (p := ⟨b16, 1, none⟩) (by have := lt16.out; simp; omega) (.slice Q8 XR.p.length q8)) (p := ⟨b16, 2, none⟩) (by have := lt16.out; simp; omega) (.int .i64 XR.left)) (p := ⟨b16, 3, none⟩) (by have := lt16.out; simp; omega) (.bool XR.st))
  have F107_ := Aside0.mk (Kd.F_far (Kd.F_far (Kd.F_far (Kd.F_far F100_.out (p := ⟨b16, 0, none⟩) (fun k_ hk_ => by dsimp only at hk_ ⊢; omega) (.slice P8 XR.s.length p8)) (p := ⟨b16, 1, none⟩) (fun k_ hk_ => by dsimp only at hk_ ⊢; omega) (.slice Q8 XR.p.length q8)) (p := ⟨b16, 2, none⟩) (fun k_ hk_ => by dsimp only at hk_ ⊢; omega) (.int .i64 XR.left)) (p := ⟨b16, 3, none⟩) (fun k_ hk_ => by dsimp only at hk_ ⊢; omega) (.bool XR.st))
  have F108_ := Aside0.mk (blk_set (blk_set (blk_set (blk_set F102_.out 0 (.slice P8 XR.s.length p8)) 1 (.slice Q8 XR.p.length q8)) 2 (.int .i64 XR.left)) 3 (.bool XR.st))
  have F109_ := Aside0.mk (DiskF.far (DiskF.far (DiskF.far (DiskF.far F103_.out (p := ⟨b16, 0, none⟩) (fun k_ hk_ => by dsimp only at hk_ ⊢; omega) (.slice P8 XR.s.length p8)) (p := ⟨b16, 1, none⟩) (fun k_ hk_ => by dsimp only at hk_ ⊢; omega) (.slice Q8 XR.p.length q8)) (p := ⟨b16, 2, none⟩) (fun k_ hk_ => by dsimp only at hk_ ⊢; omega) (.int .i64 XR.left)) (p := ⟨b16, 3, none⟩) (fun k_ hk_ => by dsimp only at hk_ ⊢; omega) (.bool XR.st))
  clear F97_ F98_ F99_ F100_ F102_ F103_
  replace F108_ := Aside0.mk (show ((((w19.setCell ⟨b16, 0, none⟩ (.slice P8 XR.s.length p8)).setCell ⟨b16, 1, none⟩ (.slice Q8 XR.p.length q8)).setCell ⟨b16, 2, none⟩ (.int .i64 XR.left)).setCell ⟨b16, 3, none⟩ (.bool XR.st)).heap[b16]? = some (.cells #[.slice P8 XR.s.length p8, .slice Q8 XR.p.length q8, .int .i64 XR.left, .bool XR.st] 25 (0, 0)) from F108_.out)
  generalize ((((w19.setCell ⟨b16, 0, none⟩ (.slice P8 XR.s.length p8)).setCell ⟨b16, 1, none⟩ (.slice Q8 XR.p.length q8)).setCell ⟨b16, 2, none⟩ (.int .i64 XR.left)).setCell ⟨b16, 3, none⟩ (.bool XR.st)) = w20 at *
  have y0 := (blk_cell F108_.out 0).trans rfl
  have y1 := (blk_cell F108_.out 1).trans rfl
  have y2 := (blk_cell F108_.out 2).trans rfl
  have y3 := (blk_cell F108_.out 3).trans rfl
  go_upto_region 14 with (go_at_call 28; (refine ((read_says _ XR 1 _ (DiskF.V F109_.out)).mono (fun e w' h => RE.of h fo.out l1.out)).mono ?_); rintro e w21 ⟨⟨A18, c18, rfl, hc18, hd⟩, hb⟩; obtain ⟨ad18, rfl, -⟩ := byte_at hd 0 (by decide); have F110_ := Aside0.mk (below_step F104_.out hb); have F111_ := Aside0.mk (DiskF.below F105_.out hb); have F112_ := Aside0.mk (blk_below F106_.out hb); have F113_ := Aside0.mk (Kd.F_below F107_.out hb); have F114_ := Aside0.mk (blk_below F108_.out hb); have F115_ := Aside0.mk (DiskF.below F109_.out hb); clear F104_ F105_ F106_ F107_ F108_ F109_; have F116_ := Aside0.mk (hd); replace hc18 := Aside0.mk hc18; clear hd hb)
  clear y0 y1 y2 y3
  have y0 := (blk_cell F114_.out 0).trans rfl
  have y1 := (blk_cell F114_.out 1).trans rfl
  have y2 := (blk_cell F114_.out 2).trans rfl
  have y3 := (blk_cell F114_.out 3).trans rfl
  go_upto_region 15 with (go_at_call 28; (refine ((read_says _ XR 0 _ (DiskF.V F115_.out)).mono (fun e w' h => RE.of h fn.out l2.out)).mono ?_); rintro e w22 ⟨⟨A20, c20, rfl, hc20, hd⟩, hb⟩; obtain ⟨ad20, rfl, -⟩ := byte_at hd 0 (by decide); have F117_ := Aside0.mk (below_step F110_.out hb); have F118_ := Aside0.mk (DiskF.below F111_.out hb); have F119_ := Aside0.mk (blk_below F112_.out hb); have F120_ := Aside0.mk (Kd.F_below F113_.out hb); have F121_ := Aside0.mk (blk_below F114_.out hb); have F122_ := Aside0.mk (DiskF.below F115_.out hb); have F123_ := Aside0.mk (Kd.F_below F116_.out hb); clear F110_ F111_ F112_ F113_ F114_ F115_ F116_; have F124_ := Aside0.mk (hd); replace hc20 := Aside0.mk hc20; clear hd hb)
  clear y0 y1 y2 y3
  clear F121_ F122_
  have y0 := (blk_cell F119_.out 0).trans rfl
  have y1 := (blk_cell F119_.out 1).trans rfl
  have y2 := (blk_cell F119_.out 2).trans rfl
  have y3 := (blk_cell F119_.out 3).trans rfl
  go_wp2_with (first | (go_at_call 24; (refine ((restartF_says _ _ Wd _ F118_.out).mono (fun e w' h => DVF.of h hWR.out)).mono ?_); rintro e w23 ⟨⟨P9, p9, Q9, q9, rfl, hd⟩, hb⟩; have F125_ := Aside0.mk (below_step F117_.out hb); have F126_ := Aside0.mk (DiskF.below F118_.out hb); have F127_ := Aside0.mk (blk_below F119_.out hb); have F128_ := Aside0.mk (Kd.F_below F120_.out hb); have F129_ := Aside0.mk (Kd.F_below F123_.out hb); have F130_ := Aside0.mk (Kd.F_below F124_.out hb); clear F117_ F118_ F119_ F120_ F123_ F124_; have F131_ := Aside0.mk (hd); clear hd hb) | (go_at_call 28; (refine ((read_says _ WR 1 _ (DiskF.V F131_.out)).mono (fun e w' h => RE.of h fq.out l3.out)).mono ?_); rintro e w24 ⟨⟨A22, c22, rfl, hc22, hd⟩, hb⟩; obtain ⟨ad22, rfl, -⟩ := byte_at hd 0 (by decide); have F132_ := Aside0.mk (below_step F125_.out hb); have F133_ := Aside0.mk (DiskF.below F126_.out hb); have F134_ := Aside0.mk (blk_below F127_.out hb); have F135_ := Aside0.mk (Kd.F_below F128_.out hb); have F136_ := Aside0.mk (Kd.F_below F129_.out hb); have F137_ := Aside0.mk (Kd.F_below F130_.out hb); have F138_ := Aside0.mk (DiskF.below F131_.out hb); clear F125_ F126_ F127_ F128_ F129_ F130_ F131_; have F139_ := Aside0.mk (hd); clear hd hb; have xB7_0 := (byte_get F135_.out 0 (by decide)).trans (congrArg (fun z => some (Value.int .u8 z)) g0.out); have zB7_0 : _ = _ := xB7_0; change World.cell? _ ad7 = _ at zB7_0; have xB18_0 := (byte_get F136_.out 0 (by decide)).trans (congrArg (fun z => some (Value.int .u8 z)) g1.out); have zB18_0 : _ = _ := xB18_0; change World.cell? _ ad18 = _ at zB18_0; have xB20_0 := (byte_get F137_.out 0 (by decide)).trans (congrArg (fun z => some (Value.int .u8 z)) g2.out); have zB20_0 : _ = _ := xB20_0; change World.cell? _ ad20 = _ at zB20_0; have xB20_64 := (byte_get F137_.out 64 (by decide)).trans (congrArg (fun z => some (Value.int .u8 z)) g3.out); have zB20_64 : _ = _ := xB20_64; change World.cell? _ ⟨ad20.block, ad20.off + 64, none⟩ = _ at zB20_64; have xB22_0 := (byte_get F139_.out 0 (by decide)).trans (congrArg (fun z => some (Value.int .u8 z)) g4.out); have zB22_0 : _ = _ := xB22_0; change World.cell? _ ad22 = _ at zB22_0) | (go_at_call 22; (refine (check_says _ zeroD _ (diskV_zero _)).mono ?_); rintro e w25 ⟨he, hb⟩; rw [fc.out] at he; subst he; have F140_ := Aside0.mk (below_step F132_.out hb); have F141_ := Aside0.mk (DiskF.below F133_.out hb); have F142_ := Aside0.mk (blk_below F134_.out hb); have F143_ := Aside0.mk (Kd.F_below F135_.out hb); have F144_ := Aside0.mk (Kd.F_below F136_.out hb); have F145_ := Aside0.mk (Kd.F_below F137_.out hb); have F146_ := Aside0.mk (DiskF.below F138_.out hb); have F147_ := Aside0.mk (Kd.F_below F139_.out hb); clear F132_ F133_ F134_ F135_ F136_ F137_ F138_ F139_; clear hb) | (go_at_call 24; (refine ((restartF_says (fun _ => False) _ zeroD _ (diskF_zero _ _)).mono (fun e w' h => DVF.of h rfl)).mono ?_); rintro e w26 ⟨⟨P10, p10, Q10, q10, rfl, hd⟩, hb⟩; have F148_ := Aside0.mk (below_step F140_.out hb); have F149_ := Aside0.mk (DiskF.below F141_.out hb); have F150_ := Aside0.mk (blk_below F142_.out hb); have F151_ := Aside0.mk (Kd.F_below F143_.out hb); have F152_ := Aside0.mk (Kd.F_below F144_.out hb); have F153_ := Aside0.mk (Kd.F_below F145_.out hb); have F154_ := Aside0.mk (DiskF.below F146_.out hb); have F155_ := Aside0.mk (Kd.F_below F147_.out hb); clear F140_ F141_ F142_ F143_ F144_ F145_ F146_ F147_; clear hb hd; rw [fm.out]))
  go_ret
  exact ⟨rfl, F148_.out⟩
end Go.Proofs.Ytlnmjgkeiljniaa.Q
/- sizarlaw45.DiskNewSpec, walked. -/
namespace Go.Proofs.Ytlnmjgkeiljniaa.Q
open Go.RowKit Go.Proofs.YtlnmjgkeiljniaaW.PrintWords Go.Proofs.YtlnmjgkeiljniaaW.PrintLast Go.Proofs.YtlnmjgkeiljniaaW.PrintMore
set_option linter.unusedVariables false
set_option linter.unusedSimpArgs false
def DV (w : World) (d : Dk) (e : Ending) (w' : World) : Prop := (∃ A0 c0 A1 c1, e = .returned (.agg #[.slice A0 d.s.length c0, .slice A1 d.p.length c1, .int .i64 d.left, .bool d.st]) ∧ DiskV w' (.agg #[.slice A0 d.s.length c0, .slice A1 d.p.length c1, .int .i64 d.left, .bool d.st]) d) ∧ Below w.heap.size w w'
theorem DV.of {w w' : World} {r d : Dk} {e : Ending} (h : (∃ v', e = .returned v' ∧ DiskV w' v' r) ∧ Below w.heap.size w w') (hr : d = r) : DV w d e w' := by
  subst hr
  obtain ⟨⟨v, he, hd⟩, hb⟩ := h
  have hd2 := hd
  obtain ⟨A0, c0, A1, c1, rfl, -⟩ := hd2
  exact ⟨⟨A0, c0, A1, c1, he, hd⟩, hb⟩
end Go.Proofs.Ytlnmjgkeiljniaa.Q
/- sizarlaw45.DiskStopped, walked. -/
namespace Go.Proofs.Ytlnmjgkeiljniaa.Q
open Go.RowKit Go.Proofs.YtlnmjgkeiljniaaW.PrintWords Go.Proofs.YtlnmjgkeiljniaaW.PrintLast Go.Proofs.YtlnmjgkeiljniaaW.PrintMore
set_option linter.unusedVariables false
set_option linter.unusedSimpArgs false
def RV (w : World) (d : Dk) (e : Ending) (w' : World) : Prop := (∃ A0 c0 A1 c1, e = .returned (.agg #[.slice A0 d.s.length c0, .slice A1 0 c1, .int .i64 (-1), .bool false]) ∧ DiskV w' (.agg #[.slice A0 d.s.length c0, .slice A1 0 c1, .int .i64 (-1), .bool false]) (restartD d)) ∧ Below w.heap.size w w'
theorem RV.of {w w' : World} {d : Dk} {e : Ending} (h : (∃ v', e = .returned v' ∧ DiskV w' v' (restartD d)) ∧ Below w.heap.size w w') : RV w d e w' := by
  obtain ⟨⟨v, he, hd⟩, hb⟩ := h
  have hd2 := hd
  obtain ⟨A0, c0, A1, c1, rfl, -⟩ := hd2
  exact ⟨⟨A0, c0, A1, c1, he, hd⟩, hb⟩
end Go.Proofs.Ytlnmjgkeiljniaa.Q
/- DiskReads: the plain law. -/
namespace Go.Proofs.Ytlnmjgkeiljniaa.Q
open Go.RowKit Go.Proofs.YtlnmjgkeiljniaaW.PrintWords Go.Proofs.YtlnmjgkeiljniaaW.PrintLast Go.Proofs.YtlnmjgkeiljniaaW.PrintMore
set_option linter.unusedVariables false
set_option linter.unusedSimpArgs false
theorem perform_get (s : List (List Int)) (p : List S76) (k : Nat) (hk : k < s.length) (hp : ∀ x ∈ p, 0 ≤ x.f0) : (performD s p).getD k [] = lastD p (k : Int) (s.getD k []) := by
  unfold performD
  induction p generalizing s with
  | nil => rfl
  | cons x p ih =>
    have h0 := hp x List.mem_cons_self
    rw [List.foldl_cons, ih _ (by rw [List.length_set]; exact hk) (fun y hy => hp y (List.mem_cons_of_mem _ hy))]
    show _ = lastD p (k : Int) (if x.f0 = (k : Int) then x.f1 else s.getD k [])
    congr 1
    by_cases h : x.f0 = (k : Int)
    · rw [if_pos h, show x.f0.toNat = k by omega]
      simp [List.getD_eq_getElem?_getD, hk]
    · rw [if_neg h]
      simp only [List.getD_eq_getElem?_getD]
      rw [List.getElem?_set_ne (by omega)]
theorem runs_mk {d : Dk} (h0 : 1 ≤ d.s.length) (h1 : d.s.length ≤ 4096) (h2 : d.p.length ≤ 4096) (h3 : -1 ≤ d.left) (h4 : d.left ≤ 65536) (h5 : ∀ x ∈ d.p, 0 ≤ x.f0 ∧ x.f0 < d.s.length ∧ x.f1.length = 128) (h6 : ∀ b ∈ d.s, b.length = 128) (h7 : d.st = false) : runsD d = true := by
  unfold runsD okD numsD
  rw [h7]
  simp only [Bool.and_eq_true, Bool.not_eq_true', Bool.or_eq_false_iff, decide_eq_false_iff_not, List.any_eq_false, Bool.not_false, and_true]
  refine ⟨⟨by omega, by omega, by omega, by omega, by omega⟩, fun x hx => ?_, fun b hb => ?_⟩
  · have := h5 x hx
    unfold badW secB
    simp only [Bool.or_eq_true, decide_eq_true_eq, Bool.not_eq_true', beq_eq_false_iff_ne, not_or]
    omega
  · have := h6 b hb
    unfold secB
    simp only [Bool.not_eq_true', beq_eq_false_iff_ne]
    omega
theorem has_mk {d : Dk} {a : Int} (h0 : 0 ≤ a) (h1 : a < d.s.length) : hasD d a = true := by unfold hasD; simp [h0, h1]
end Go.Proofs.Ytlnmjgkeiljniaa.Q
/- DiskTogether: the plain law. -/
namespace Go.Proofs.Ytlnmjgkeiljniaa.Q
open Go.RowKit Go.Proofs.YtlnmjgkeiljniaaW.PrintWords Go.Proofs.YtlnmjgkeiljniaaW.PrintLast Go.Proofs.YtlnmjgkeiljniaaW.PrintMore
set_option linter.unusedVariables false
set_option linter.unusedSimpArgs false
theorem write_on {s : List (List Int)} {p : List S76} {left a : Int} {b : List Int} (h0 : 1 ≤ s.length) (h1 : s.length ≤ 4096) (h2 : p.length < 4096) (h3 : -1 ≤ left) (h4 : left ≤ 65536) (h5 : ∀ x ∈ p, 0 ≤ x.f0 ∧ x.f0 < (s.length : Int) ∧ x.f1.length = 128) (h6 : ∀ b ∈ s, b.length = 128) (ha : 0 ≤ a) (ha2 : a < s.length) (hb : b.length ≤ 128) :
    writeD ⟨s, p, left, false⟩ a b = (⟨s, p ++ [⟨a, pad b⟩], left, false⟩, 0) := by
  unfold writeD
  rw [if_neg (fun hn => hn ⟨runs_mk h0 h1 (Nat.le_of_lt h2) h3 h4 h5 h6 rfl, has_mk ha ha2⟩), if_neg (by omega), if_neg (by show ¬ p.length = 4096; omega)]
theorem sync_on {s : List (List Int)} {p : List S76} {left : Int} (h0 : 1 ≤ s.length) (h1 : s.length ≤ 4096) (h2 : p.length ≤ 4096) (h3 : -1 ≤ left) (h4 : left ≤ 65536) (h5 : ∀ x ∈ p, 0 ≤ x.f0 ∧ x.f0 < (s.length : Int) ∧ x.f1.length = 128) (h6 : ∀ b ∈ s, b.length = 128) :
    syncD ⟨s, p, left, false⟩ = if 0 ≤ left ∧ left < p.length then
      (⟨(performD s (p.take left.toNat)).set (p.getD left.toNat z76).f0.toNat (tear ((performD s (p.take left.toNat)).getD (p.getD left.toNat z76).f0.toNat []) (p.getD left.toNat z76).f1), [], 0, true⟩, 450)
    else (⟨performD s p, [], if 0 ≤ left then left - p.length else left, false⟩, 0) := by
  unfold syncD
  rw [if_pos (runs_mk h0 h1 h2 h3 h4 h5 h6 rfl)]
end Go.Proofs.Ytlnmjgkeiljniaa.Q
/- DiskHistory: the plain law. -/
namespace Go.Proofs.Ytlnmjgkeiljniaa.Q
open Go.RowKit Go.Proofs.YtlnmjgkeiljniaaW.PrintWords Go.Proofs.YtlnmjgkeiljniaaW.PrintLast Go.Proofs.YtlnmjgkeiljniaaW.PrintMore
set_option linter.unusedVariables false
set_option linter.unusedSimpArgs false
/-- the write of an act on four sectors -/
def actH (x : S57) : S76 := ⟨x.f1 % 4, dblD x.f2⟩
def actsH (l : List S57) : List S76 := l.map actH
/-- the bytes of the last acts -/
def applyA (l : List S57) (b : List Int) : List Int := l.foldl (fun b x => b.set (x.f1 % 4).toNat x.f2) b
def hisD (base : List Int) (wt : List S57) (room : Int) : Dk := ⟨base.map dblD, actsH wt, room, false⟩
/-- what is asked of a disk -/
def HoldsD (d : Dk) (f s : List Int) : Prop := ∀ j : Nat, j < 4 → ∃ b, readD d (j : Int) = (b, 0) ∧ b.length = 128 ∧ b.getD 0 0 = f.getD j 0 ∧ b.getD 64 0 = s.getD j 0 ∧ b.getD 1 0 = 0 ∧ b.getD 127 0 = 0
theorem dblD_len (c : Int) : (dblD c).length = 128 := by unfold dblD; simp [zeros]
theorem dblD_0 (c : Int) : (dblD c).getD 0 0 = c := by unfold dblD zeros; rfl
theorem dblD_64 (c : Int) : (dblD c).getD 64 0 = c := by unfold dblD zeros; rfl
theorem dblD_1 (c : Int) : (dblD c).getD 1 0 = 0 := by unfold dblD zeros; rfl
theorem dblD_127 (c : Int) : (dblD c).getD 127 0 = 0 := by unfold dblD zeros; rfl
theorem pad_dbl (c : Int) : pad (dblD c) = dblD c := by unfold pad; rw [dblD_len]; simp [zeros]
theorem dblD_zero : dblD 0 = zeros 128 := by unfold dblD zeros; rfl
theorem applyA_len (l : List S57) (b : List Int) : (applyA l b).length = b.length := by
  unfold applyA
  induction l generalizing b with
  | nil => rfl
  | cons x l ih => rw [List.foldl_cons, ih, List.length_set]
theorem applyA_snoc (l : List S57) (x : S57) (b : List Int) : applyA (l ++ [x]) b = (applyA l b).set (x.f1 % 4).toNat x.f2 := by unfold applyA; rw [List.foldl_append]; rfl
theorem applyA_take (l : List S57) (i : Nat) (h : i < l.length) (b : List Int) : applyA (l.take (i + 1)) b = (applyA (l.take i) b).set ((l.getD i z57).f1 % 4).toNat (l.getD i z57).f2 := by
  rw [List.take_succ_eq_append_getElem h, applyA_snoc]
  simp [List.getD_eq_getElem?_getD, List.getElem?_eq_getElem h]
theorem actsH_snoc (l : List S57) (x : S57) : actsH (l ++ [x]) = actsH l ++ [actH x] := by unfold actsH; simp
theorem actsH_len (l : List S57) : (actsH l).length = l.length := List.length_map _
theorem actH_ok (x : S57) : 0 ≤ (actH x).f0 ∧ (actH x).f0 < 4 ∧ (actH x).f1.length = 128 := ⟨Int.emod_nonneg _ (by decide), Int.emod_lt_of_pos _ (by decide), dblD_len _⟩
theorem actsH_ok (l : List S57) (n : Int) (hn : n = 4) : ∀ x ∈ actsH l, 0 ≤ x.f0 ∧ x.f0 < n ∧ x.f1.length = 128 := by
  intro x hx
  unfold actsH at hx
  obtain ⟨y, _, rfl⟩ := List.mem_map.1 hx
  rw [hn]
  exact actH_ok y
theorem perform_acts (l : List S57) (b : List Int) : performD (b.map dblD) (actsH l) = (applyA l b).map dblD := by
  unfold performD actsH applyA
  induction l generalizing b with
  | nil => rfl
  | cons x l ih =>
    rw [List.map_cons, List.foldl_cons, List.foldl_cons]
    show List.foldl _ ((b.map dblD).set (x.f1 % 4).toNat (dblD x.f2)) _ = _
    rw [← List.map_set, ih]
theorem base_secs (b : List Int) : ∀ x ∈ b.map dblD, x.length = 128 := by
  intro x hx
  obtain ⟨y, _, rfl⟩ := List.mem_map.1 hx
  exact dblD_len y
theorem his_runs {b : List Int} {wt : List S57} {room : Int} (hb : b.length = 4) (hw : wt.length ≤ 40) (h0 : 0 ≤ room) (h1 : room ≤ 65536) : runsD (hisD b wt room) = true := by
  unfold hisD
  exact runs_mk (by simp [hb]) (by simp [hb]) (by simp [actsH_len]; omega) (by simp; omega) (by simpa using h1) (actsH_ok wt _ (by simp [hb])) (base_secs b) rfl
theorem his_read {b : List Int} {wt : List S57} {room : Int} (hb : b.length = 4) (hw : wt.length ≤ 40) (h0 : 0 ≤ room) (h1 : room ≤ 65536) : HoldsD (hisD b wt room) (applyA wt b) (applyA wt b) := by
  intro j hj
  have hr := his_runs hb hw h0 h1
  have hg := perform_get (b.map dblD) (actsH wt) j (by simp [hb]; exact hj) (fun x hx => (actsH_ok wt 4 rfl x hx).1)
  have hl : j < (applyA wt b).length := by rw [applyA_len, hb]; exact hj
  have he : ((applyA wt b).map dblD).getD j [] = dblD ((applyA wt b).getD j 0) := by simp [List.getD_eq_getElem?_getD, List.getElem?_eq_getElem hl]
  refine ⟨dblD ((applyA wt b).getD j 0), ?_, dblD_len _, dblD_0 _, dblD_64 _, dblD_1 _, dblD_127 _⟩
  unfold readD
  rw [if_pos ⟨hr, has_mk (by omega) (by unfold hisD; simp [hb]; omega)⟩, ← he, ← perform_acts, hg]
  rfl
theorem his_write {b : List Int} {wt : List S57} {room : Int} (x : S57) (hb : b.length = 4) (hw : wt.length < 40) (h0 : 0 ≤ room) (h1 : room ≤ 65536) : writeD (hisD b wt room) (x.f1 % 4) (dblD x.f2) = (hisD b (wt ++ [x]) room, 0) := by
  have ho := actH_ok x
  unfold hisD
  have := write_on (s := b.map dblD) (p := actsH wt) (left := room) (a := x.f1 % 4) (b := dblD x.f2) (by simp [hb]) (by simp [hb]) (by rw [actsH_len]; omega) (by omega) h1 (actsH_ok wt _ (by simp [hb])) (base_secs b) ho.1 (by rw [List.length_map, hb]; exact ho.2.1) (by rw [dblD_len]; omega)
  rw [this, actsH_snoc, pad_dbl]
  rfl
theorem his_sync {b : List Int} {wt : List S57} {room : Int} (hb : b.length = 4) (hw : wt.length ≤ 40) (h0 : 0 ≤ room) (h1 : room ≤ 65536) (hn : (wt.length : Int) ≤ room) : syncD (hisD b wt room) = (hisD (applyA wt b) [] (room - wt.length), 0) := by
  unfold hisD
  rw [sync_on (by simp [hb]) (by simp [hb]) (by rw [actsH_len]; omega) (by omega) h1 (actsH_ok wt _ (by simp [hb])) (base_secs b), if_neg (by rw [actsH_len]; omega), perform_acts, if_pos h0, actsH_len]
  rfl
/-- the disk of a history that stopped -/
def hisT (b : List Int) (wt : List S57) (room : Nat) : Dk := ⟨((applyA (wt.take room) b).map dblD).set ((wt.getD room z57).f1 % 4).toNat (tear (dblD ((applyA (wt.take room) b).getD ((wt.getD room z57).f1 % 4).toNat 0)) (dblD (wt.getD room z57).f2)), [], 0, true⟩
theorem his_stop {b : List Int} {wt : List S57} {room : Nat} (hb : b.length = 4) (hw : wt.length ≤ 40) (h1 : room ≤ 65536) (hn : room < wt.length) : syncD (hisD b wt (room : Int)) = (hisT b wt room, 450) := by
  have e1 : (actsH wt).take room = actsH (wt.take room) := by unfold actsH; rw [List.map_take]
  have e2 : (actsH wt).getD room z76 = actH (wt.getD room z57) := by unfold actsH; simp [List.getD_eq_getElem?_getD, List.getElem?_eq_getElem hn]
  have ho := actH_ok (wt.getD room z57)
  have hl : ((wt.getD room z57).f1 % 4).toNat < (applyA (wt.take room) b).length := by
    have h2 : (wt.getD room z57).f1 % 4 < 4 := ho.2.1
    have h3 : 0 ≤ (wt.getD room z57).f1 % 4 := ho.1
    rw [applyA_len, hb]
    omega
  have e3 : ((applyA (wt.take room) b).map dblD).getD ((wt.getD room z57).f1 % 4).toNat [] = dblD ((applyA (wt.take room) b).getD ((wt.getD room z57).f1 % 4).toNat 0) := by
    generalize ((wt.getD room z57).f1 % 4).toNat = m at *
    simp [List.getD_eq_getElem?_getD, List.getElem?_eq_getElem hl]
  unfold hisD
  rw [sync_on (by simp [hb]) (by simp [hb]) (by rw [actsH_len]; omega) (by omega) (by omega) (actsH_ok wt _ (by simp [hb])) (base_secs b), if_pos (by rw [actsH_len]; omega), Int.toNat_natCast, e1, e2, perform_acts]
  unfold hisT
  rw [← e3]
  rfl
theorem tear_dbl (x y : Int) : tear (dblD x) (dblD y) = ((zeros 128).set 0 y).set 64 x := by unfold tear dblD zeros; rfl
theorem his_stop_read {b : List Int} {wt : List S57} {room : Nat} (hb : b.length = 4) (hw : wt.length ≤ 40) (hn : room < wt.length) : HoldsD (restartD (hisT b wt room)) (applyA (wt.take (room + 1)) b) (applyA (wt.take room) b) := by
  intro j hj
  have ho := actH_ok (wt.getD room z57)
  have h2 : (wt.getD room z57).f1 % 4 < 4 := ho.2.1
  have h3 : 0 ≤ (wt.getD room z57).f1 % 4 := ho.1
  rw [applyA_take wt room hn]
  have hlen : (applyA (wt.take room) b).length = 4 := by rw [applyA_len, hb]
  unfold hisT restartD
  dsimp only
  generalize hm : ((wt.getD room z57).f1 % 4).toNat = m at *
  have hm4 : m < 4 := by omega
  generalize applyA (wt.take room) b = f at *
  generalize (wt.getD room z57).f2 = y at *
  have hr : runsD ⟨(f.map dblD).set m (tear (dblD (f.getD m 0)) (dblD y)), [], -1, false⟩ = true := by
    refine runs_mk (by simp [hlen]) (by simp [hlen]) (by simp) (by simp) (by simp) (by simp) (fun x hx => ?_) rfl
    rcases List.mem_or_eq_of_mem_set hx with hx | rfl
    · exact base_secs f x hx
    · exact tear_len _ _ (dblD_len _) (dblD_len _)
  have hrd : readD ⟨(f.map dblD).set m (tear (dblD (f.getD m 0)) (dblD y)), [], -1, false⟩ (j : Int) = (((f.map dblD).set m (tear (dblD (f.getD m 0)) (dblD y))).getD j [], 0) := by
    unfold readD
    rw [if_pos ⟨hr, has_mk (by omega) (by simp [hlen]; omega)⟩]
    rfl
  refine ⟨_, hrd, ?_⟩
  by_cases hjm : j = m
  · subst hjm
    have e : ((f.map dblD).set j (tear (dblD (f.getD j 0)) (dblD y))).getD j [] = tear (dblD (f.getD j 0)) (dblD y) := by simp [List.getD_eq_getElem?_getD, hlen, hj]
    have e2 : (f.set j y).getD j 0 = y := by simp [List.getD_eq_getElem?_getD, hlen, hj]
    rw [e, e2, tear_dbl]
    refine ⟨by simp [zeros], ?_, ?_, ?_, ?_⟩ <;> (unfold zeros; rfl)
  · have hjl : j < f.length := by omega
    have e : ((f.map dblD).set m (tear (dblD (f.getD m 0)) (dblD y))).getD j [] = dblD (f.getD j 0) := by simp [List.getD_eq_getElem?_getD, List.getElem?_set_ne (Ne.symm hjm), List.getElem?_eq_getElem hjl]
    have e2 : (f.set m y).getD j 0 = f.getD j 0 := by simp [List.getD_eq_getElem?_getD, List.getElem?_set_ne (Ne.symm hjm)]
    rw [e, e2]
    exact ⟨dblD_len _, dblD_0 _, dblD_64 _, dblD_1 _, dblD_127 _⟩
theorem his_rest_read {b : List Int} {wt : List S57} {room : Int} (hb : b.length = 4) : HoldsD (restartD (hisD b wt room)) b b := by
  have h := his_read (b := b) (wt := []) (room := 0) hb (by simp) (by omega) (by omega)
  intro j hj
  obtain ⟨x, h1, h2⟩ := h j hj
  refine ⟨x, ?_, h2⟩
  rw [← h1]
  have r1 : runsD (restartD (hisD b wt room)) = true := by
    unfold restartD hisD
    exact runs_mk (by simp [hb]) (by simp [hb]) (by simp) (by simp) (by simp) (by simp) (base_secs b) rfl
  have r2 := his_runs (b := b) (wt := []) (room := 0) hb (by simp) (by omega) (by omega)
  unfold readD
  rw [r1, r2]
  rfl
theorem his_new : newD 4 = (⟨[0, 0, 0, 0].map dblD, [], -1, false⟩, 0) := by
  unfold newD
  rw [if_neg (by omega)]
  simp only [List.map_cons, List.map_nil, dblD_zero]
  rfl
theorem his_start (n : Int) (h0 : 0 ≤ n) (h1 : n < 256) : stopD ⟨[0, 0, 0, 0].map dblD, [], -1, false⟩ n = (hisD [0, 0, 0, 0] [] n, 0) := by
  unfold stopD
  rw [if_pos (runs_mk (by simp) (by simp) (by simp) (by simp) (by simp) (by simp) (base_secs _) rfl), if_neg (by omega)]
  rfl
end Go.Proofs.Ytlnmjgkeiljniaa.Q
