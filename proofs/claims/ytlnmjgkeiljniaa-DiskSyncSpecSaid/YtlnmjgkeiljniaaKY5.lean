/- The proof's texts, part 6 of 8. -/
import Derived.Test.YtlnmjgkeiljniaaKY4
set_option linter.unusedVariables false
set_option linter.unusedSimpArgs false
/- sizarlaw45.DiskNewSpec, walked. -/
namespace Go.Proofs.Ytlnmjgkeiljniaa.Q
open Go.RowKit Go.Proofs.YtlnmjgkeiljniaaW.PrintWords Go.Proofs.YtlnmjgkeiljniaaW.PrintLast Go.Proofs.YtlnmjgkeiljniaaW.PrintMore
set_option linter.unusedVariables false
set_option linter.unusedSimpArgs false
def DV (w : World) (d : Dk) (e : Ending) (w' : World) : Prop := (∃ A0 c0 A1 c1, e = .returned (.agg #[.slice A0 d.s.length c0, .slice A1 d.p.length c1, .int .i64 d.left, .bool d.st]) ∧ DiskV w' (.agg #[.slice A0 d.s.length c0, .slice A1 d.p.length c1, .int .i64 d.left, .bool d.st]) d) ∧ Below w.heap.size w w'
theorem DV.of {w w' : World} {r d : Dk} {e : Ending} (h : (∃ v', e = .returned v' ∧ DiskV w' v' r) ∧ Below w.heap.size w w') (hr : d = r) : DV w d e w' := by
  subst hr
  obtain ⟨⟨v, he, hd⟩, hb⟩ := h
  have hd2 := hd
  obtain ⟨A0, c0, A1, c1, rfl, -⟩ := hd2
  exact ⟨⟨A0, c0, A1, c1, he, hd⟩, hb⟩
theorem few_one {W0 : World} {ok : Nat → Prop} {P0 Q0 : Option Addr} {p0 q0 : Nat} {d : Dk} (h : DiskF W0 ok (.agg #[.slice P0 d.s.length p0, .slice Q0 d.p.length q0, .int .i64 d.left, .bool d.st]) d) : ∃ r : Bool, Aside0 (∀ w', Below W0.heap.size W0 w' → Calls Try.prog 18 #[(.agg #[.slice P0 d.s.length p0, .slice Q0 d.p.length q0, .int .i64 d.left, .bool d.st])] w' fun e w'' => e = .returned (.bool r) ∧ Below w'.heap.size w' w'') := by
  obtain ⟨A0, c0, A1, c1, he, h0, h1, hC0, hC1⟩ := h.V
  obtain ⟨r, hr⟩ := few_l0 d.s d.p d.left d.st hC0.2.1 hC1.2.1 (d.s.length + d.p.length + 3) 0 0 (by omega) (by omega)
  refine ⟨r, ⟨fun w' hb => ?_⟩⟩
  rw [he]
  exact sizarref45_Few.calls (d.s.length + d.p.length + 3) A0 c0 d.s A1 c1 d.p d.left d.st r w' (Kd.C_below hC0 hb) h0 (Kd.C_below hC1 hb) h1 hr
set_option maxHeartbeats 8000000 in
set_option maxRecDepth 100000 in
theorem newSpec_many (n : Int) (P0 : Option Addr) (p0 : Nat) (Q0 : Option Addr) (q0 : Nat) (d : Dk) (w : World) (h : DiskV w (.agg #[.slice P0 d.s.length p0, .slice Q0 d.p.length q0, .int .i64 d.left, .bool d.st]) d) (h1 : 60 < n ∧ n ≤ 4096) : Calls Try.prog 3 #[.int .i64 n, (.agg #[.slice P0 d.s.length p0, .slice Q0 d.p.length q0, .int .i64 d.left, .bool d.st])] w fun e w' => e = .returned (.bool true) ∧ Below w.heap.size w w' := by
  have hu25 := Try.underlying25
  have D0 := Aside0.mk (DiskV.F h)
  have F1_ := Aside0.mk (Below.refl w.heap.size w)
  clear h
  have q1 : decide ((60 : Int) < n) = true := decide_eq_true h1.1
  have q2 : decide (n ≤ (4096 : Int)) = true := decide_eq_true h1.2
  clear h1
  go_enter Try.func3, Try.ntmps3
  go_upto_region 1 with (fail)
  have F2_ := Aside0.mk (DiskF.below D0.out (below_alloc (Below.refl _ _) (.cells #[.slice P0 d.s.length p0, .slice Q0 d.p.length q0, .int .i64 d.left, .bool d.st] 25)))
  have F3_ := Aside0.mk (below_alloc F1_.out (.cells #[.slice P0 d.s.length p0, .slice Q0 d.p.length q0, .int .i64 d.left, .bool d.st] 25))
  clear D0 F1_
  have F4_ := Aside0.mk (blk_new w (.cells #[.slice P0 d.s.length p0, .slice Q0 d.p.length q0, .int .i64 d.left, .bool d.st] 25))
  generalize w.alloc (.cells #[.slice P0 d.s.length p0, .slice Q0 d.p.length q0, .int .i64 d.left, .bool d.st] 25) = w1 at *
  go_upto_region 3 with (go_at_call 17; (refine (sane_says _).mono ?_); rintro e w2 ⟨rfl, hb⟩; have F5_ := Aside0.mk (DiskF.below F2_.out hb); have F6_ := Aside0.mk (below_step F3_.out hb); have F7_ := Aside0.mk (blk_below F4_.out hb); clear F2_ F3_ F4_; clear hb)
  go_wp2
  go_ret
  exact ⟨rfl, F6_.out⟩
set_option maxHeartbeats 8000000 in
set_option maxRecDepth 100000 in
theorem newSpec_a (n : Int) (P0 : Option Addr) (p0 : Nat) (Q0 : Option Addr) (q0 : Nat) (d : Dk) (w : World) (h : DiskV w (.agg #[.slice P0 d.s.length p0, .slice Q0 d.p.length q0, .int .i64 d.left, .bool d.st]) d) (h1 : ¬ 60 < n) : Calls Try.prog 3 #[.int .i64 n, (.agg #[.slice P0 d.s.length p0, .slice Q0 d.p.length q0, .int .i64 d.left, .bool d.st])] w fun e w' => e = .returned (.bool true) ∧ Below w.heap.size w w' := by
  have hu25 := Try.underlying25
  have D0 := Aside0.mk (DiskV.F h)
  have F1_ := Aside0.mk (Below.refl w.heap.size w)
  clear h
  have q1 : decide ((60 : Int) < n) = false := decide_eq_false h1
  clear h1
  obtain ⟨Dn, En, hn⟩ : ∃ Dn En, Aside0 (newD n = (Dn, En)) := ⟨_, _, ⟨rfl⟩⟩
  obtain ⟨Rd, hR⟩ : ∃ x, Aside0 (x = restartD d) := ⟨_, ⟨rfl⟩⟩
  go_enter Try.func3, Try.ntmps3
  go_upto_region 1 with (fail)
  have F2_ := Aside0.mk (DiskF.below D0.out (below_alloc (Below.refl _ _) (.cells #[.slice P0 d.s.length p0, .slice Q0 d.p.length q0, .int .i64 d.left, .bool d.st] 25)))
  have F3_ := Aside0.mk (below_alloc F1_.out (.cells #[.slice P0 d.s.length p0, .slice Q0 d.p.length q0, .int .i64 d.left, .bool d.st] 25))
  clear D0 F1_
  have F4_ := Aside0.mk (blk_new w (.cells #[.slice P0 d.s.length p0, .slice Q0 d.p.length q0, .int .i64 d.left, .bool d.st] 25))
  generalize w.alloc (.cells #[.slice P0 d.s.length p0, .slice Q0 d.p.length q0, .int .i64 d.left, .bool d.st] 25) = w1 at *
  go_upto_region 3 with (go_at_call 17; (refine (sane_says _).mono ?_); rintro e w2 ⟨rfl, hb⟩; have F5_ := Aside0.mk (DiskF.below F2_.out hb); have F6_ := Aside0.mk (below_step F3_.out hb); have F7_ := Aside0.mk (blk_below F4_.out hb); clear F2_ F3_ F4_; clear hb)
  have y0 := (blk_cell F7_.out 0).trans rfl
  have y1 := (blk_cell F7_.out 1).trans rfl
  have y2 := (blk_cell F7_.out 2).trans rfl
  have y3 := (blk_cell F7_.out 3).trans rfl
  obtain ⟨r, hr⟩ : ∃ r : Bool, Aside0 (∀ w', Below w2.heap.size w2 w' → Calls Try.prog 18 #[(.agg #[.slice P0 d.s.length p0, .slice Q0 d.p.length q0, .int .i64 d.left, .bool d.st])] w' fun e w'' => e = .returned (.bool r) ∧ Below w'.heap.size w' w'') := few_one F5_.out
  cases r with
    | false =>
      go_wp2_with (go_at_call 18; (refine (hr.out _ (Below.refl _ _)).mono ?_); rintro e w3 ⟨rfl, hb⟩; have F8_ := Aside0.mk (DiskF.below F5_.out hb); have F9_ := Aside0.mk (below_step F6_.out hb); have F10_ := Aside0.mk (blk_below F7_.out hb); clear F5_ F6_ F7_; clear hb)
      go_ret
      exact ⟨rfl, F9_.out⟩
    | true =>
      go_upto_region 5 with (go_at_call 18; (refine (hr.out _ (Below.refl _ _)).mono ?_); rintro e w3 ⟨rfl, hb⟩; have F8_ := Aside0.mk (DiskF.below F5_.out hb); have F9_ := Aside0.mk (below_step F6_.out hb); have F10_ := Aside0.mk (blk_below F7_.out hb); clear F5_ F6_ F7_; clear hb)
      clear y0 y1 y2 y3
      go_upto_region 6 with (go_at_call 19; (refine ((new_says n _).mono (fun e w' h => DE.of h hn.out)).mono ?_); rintro e w4 ⟨⟨P1, p1, Q1, q1, rfl, hd⟩, hb⟩; have F11_ := Aside0.mk (DiskF.below F8_.out hb); have F12_ := Aside0.mk (below_step F9_.out hb); have F13_ := Aside0.mk (blk_below F10_.out hb); clear F8_ F9_ F10_; have F14_ := Aside0.mk (DiskV.F hd); clear hd hb)
      have F15_ := Aside0.mk (DiskF.below F11_.out (below_alloc (Below.refl _ _) (.cells #[.slice P1 Dn.s.length p1, .slice Q1 Dn.p.length q1, .int .i64 Dn.left, .bool Dn.st] 25)))
      have F16_ := Aside0.mk (below_alloc F12_.out (.cells #[.slice P1 Dn.s.length p1, .slice Q1 Dn.p.length q1, .int .i64 Dn.left, .bool Dn.st] 25))
      have F17_ := Aside0.mk (blk_alloc F13_.out (.cells #[.slice P1 Dn.s.length p1, .slice Q1 Dn.p.length q1, .int .i64 Dn.left, .bool Dn.st] 25))
      have F18_ := Aside0.mk (DiskF.below F14_.out (below_alloc (Below.refl _ _) (.cells #[.slice P1 Dn.s.length p1, .slice Q1 Dn.p.length q1, .int .i64 Dn.left, .bool Dn.st] 25)))
      clear F11_ F12_ F13_ F14_
      have F19_ := Aside0.mk (blk_new w4 (.cells #[.slice P1 Dn.s.length p1, .slice Q1 Dn.p.length q1, .int .i64 Dn.left, .bool Dn.st] 25))
      generalize w4.alloc (.cells #[.slice P1 Dn.s.length p1, .slice Q1 Dn.p.length q1, .int .i64 Dn.left, .bool Dn.st] 25) = w5 at *
      generalize w4.heap.size = b5 at *
      go_upto_region 7 with (go_at_call 20; (refine ((refnew_says n _).mono (fun e w' h => DE.of h hn.out)).mono ?_); rintro e w6 ⟨⟨P2, p2, Q2, q2, rfl, hd⟩, hb⟩; have F20_ := Aside0.mk (DiskF.below F15_.out hb); have F21_ := Aside0.mk (below_step F16_.out hb); have F22_ := Aside0.mk (blk_below F17_.out hb); have F23_ := Aside0.mk (DiskF.below F18_.out hb); have F24_ := Aside0.mk (blk_below F19_.out hb); clear F15_ F16_ F17_ F18_ F19_; have F25_ := Aside0.mk (DiskV.F hd); clear hd hb)
      have F26_ := Aside0.mk (DiskF.below F20_.out (below_alloc (Below.refl _ _) (.cells #[.slice P2 Dn.s.length p2, .slice Q2 Dn.p.length q2, .int .i64 Dn.left, .bool Dn.st] 25)))
      have F27_ := Aside0.mk (below_alloc F21_.out (.cells #[.slice P2 Dn.s.length p2, .slice Q2 Dn.p.length q2, .int .i64 Dn.left, .bool Dn.st] 25))
      have F28_ := Aside0.mk (blk_alloc F22_.out (.cells #[.slice P2 Dn.s.length p2, .slice Q2 Dn.p.length q2, .int .i64 Dn.left, .bool Dn.st] 25))
      have F29_ := Aside0.mk (DiskF.below F23_.out (below_alloc (Below.refl _ _) (.cells #[.slice P2 Dn.s.length p2, .slice Q2 Dn.p.length q2, .int .i64 Dn.left, .bool Dn.st] 25)))
      have F30_ := Aside0.mk (blk_alloc F24_.out (.cells #[.slice P2 Dn.s.length p2, .slice Q2 Dn.p.length q2, .int .i64 Dn.left, .bool Dn.st] 25))
      have F31_ := Aside0.mk (DiskF.below F25_.out (below_alloc (Below.refl _ _) (.cells #[.slice P2 Dn.s.length p2, .slice Q2 Dn.p.length q2, .int .i64 Dn.left, .bool Dn.st] 25)))
      clear F20_ F21_ F22_ F23_ F24_ F25_
      have F32_ := Aside0.mk (blk_new w6 (.cells #[.slice P2 Dn.s.length p2, .slice Q2 Dn.p.length q2, .int .i64 Dn.left, .bool Dn.st] 25))
      generalize w6.alloc (.cells #[.slice P2 Dn.s.length p2, .slice Q2 Dn.p.length q2, .int .i64 Dn.left, .bool Dn.st] 25) = w7 at *
      generalize w6.heap.size = b7 at *
      refine start_ (n := 23) (S := fun w' => Below w7.drew.heap.size w7.drew w') (ds := []) #[false, false, false, false, false, false, false, false, false, false, false, false, false, false, false, false, false, false, false, false, false, false, false] (by kernel_rfl) rfl rfl (Below.refl _ _) (fun hHeld => ?_)
      have F33_ := Aside0.mk (DiskF.below F26_.out (below_drew1 (Below.refl _ _)))
      have F34_ := Aside0.mk (below_drew1 F27_.out)
      have F35_ := Aside0.mk (blk_drew F28_.out)
      have F36_ := Aside0.mk (DiskF.below F29_.out (below_drew1 (Below.refl _ _)))
      have F37_ := Aside0.mk (blk_drew F30_.out)
      have F38_ := Aside0.mk (DiskF.below F31_.out (below_drew1 (Below.refl _ _)))
      have F39_ := Aside0.mk (blk_drew F32_.out)
      clear F26_ F27_ F28_ F29_ F30_ F31_ F32_
      generalize w7.drew = w8 at *
      have hold_b3 := F35_.out
      have hold_b5 := F37_.out
      have hold_b7 := F39_.out
      refine take_ (i := 0) (N := some 32) (v := ?_) (a' := ?_) #[true, false, false, false, false, false, false, false, false, false, false, false, false, false, false, false, false, false, false, false, false, false, false] rfl rfl (by kernel_rfl) (fun _ _ _ h => h) (Or.inl ⟨by rfl, ?_⟩) hHeld ?_ ?_
      rotate_left
      · rintro w' s0
        have hz0 := blk_below hold_b5 s0
        have yy00 := (blk_cell hz0 0).trans rfl
        have yy01 := (blk_cell hz0 1).trans rfl
        have yy02 := (blk_cell hz0 2).trans rfl
        have yy03 := (blk_cell hz0 3).trans rfl
        go_simp
        with_reducible rfl
      rotate_left
      · simp only [Act.put, List.setIfInBounds_toArray, List.set_cons_zero, List.set_cons_succ, i64_w, i32_w]
        rfl
      refine take_ (i := 1) (N := some 33) (v := ?_) (a' := ?_) #[true, true, false, false, false, false, false, false, false, false, false, false, false, false, false, false, false, false, false, false, false, false, false] rfl rfl (by kernel_rfl) (fun _ _ _ h => h) (Or.inl ⟨by rfl, ?_⟩) hHeld ?_ ?_
      rotate_left
      · rintro w' s0
        have hz0 := blk_below hold_b7 s0
        have yy00 := (blk_cell hz0 0).trans rfl
        have yy01 := (blk_cell hz0 1).trans rfl
        have yy02 := (blk_cell hz0 2).trans rfl
        have yy03 := (blk_cell hz0 3).trans rfl
        go_simp
        with_reducible rfl
      rotate_left
      · simp only [Act.put, List.setIfInBounds_toArray, List.set_cons_zero, List.set_cons_succ, i64_w, i32_w]
        rfl
      refine one_ (i := 2) (N := some 34) #[true, true, true, false, false, false, false, false, false, false, false, false, false, false, false, false, false, false, false, false, false, false, false] rfl rfl (by kernel_rfl) (by decide) (fun K hK => ?_)
      refine goes_ Try.func21 (by kernel_rfl) rfl #[(.agg #[.slice P1 Dn.s.length p1, .slice Q1 Dn.p.length q1, .int .i64 Dn.left, .bool Dn.st]), (.agg #[.slice P2 Dn.s.length p2, .slice Q2 Dn.p.length q2, .int .i64 Dn.left, .bool Dn.st])] (by rfl) rfl rfl (by (try simp only [List.map_toArray, List.map_cons, List.map_nil]); first | done | rfl) ?_
      refine (same_says _ _ Dn _ (DiskF.V F36_.out) (DiskF.V F38_.out)).mono ?_
      rintro e w9 ⟨rfl, hb⟩
      refine ⟨_, rfl, ?_⟩
      refine hK.out _ _ (below_step hHeld hb) (fun hHeld => ?_)
      clear hK K
      refine norm_ (a' := ?_) ?_ ?_
      rotate_left
      · show Act.put _ (some 34) _ = _
        simp only [Act.put, List.setIfInBounds_toArray, List.set_cons_zero, List.set_cons_succ, i64_w, i32_w]
        rfl
      have F40_ := Aside0.mk (DiskF.below F33_.out hb)
      have F41_ := Aside0.mk (below_step F34_.out hb)
      have F42_ := Aside0.mk (blk_below F35_.out hb)
      have F43_ := Aside0.mk (DiskF.below F36_.out hb)
      have F44_ := Aside0.mk (blk_below F37_.out hb)
      have F45_ := Aside0.mk (DiskF.below F38_.out hb)
      have F46_ := Aside0.mk (blk_below F39_.out hb)
      clear F33_ F34_ F35_ F36_ F37_ F38_ F39_
      clear hb
      refine pure_ (i := 3) (N := some 35) (v := ?_) (a' := ?_) #[true, true, true, true, false, false, false, false, false, false, false, false, false, false, false, false, false, false, false, false, false, false, false] rfl rfl (by kernel_rfl) (fun _ _ _ h => h) (Or.inl ⟨by rfl, ?_⟩) ?_ ?_
      rotate_left
      · intro w'
        go_simp
        with_reducible rfl
      rotate_left
      · simp only [Act.put, List.setIfInBounds_toArray, List.set_cons_zero, List.set_cons_succ, i64_w, i32_w]
        rfl
      refine pure_ (i := 4) (N := some 36) (v := ?_) (a' := ?_) #[true, true, true, true, true, false, false, false, false, false, false, false, false, false, false, false, false, false, false, false, false, false, false] rfl rfl (by kernel_rfl) (fun _ _ _ h => h) (Or.inl ⟨by rfl, ?_⟩) ?_ ?_
      rotate_left
      · intro w'
        go_simp
        with_reducible rfl
      rotate_left
      · simp only [Act.put, List.setIfInBounds_toArray, List.set_cons_zero, List.set_cons_succ, i64_w, i32_w]
        rfl
      refine pure_ (i := 5) (N := some 37) (v := ?_) (a' := ?_) #[true, true, true, true, true, true, false, false, false, false, false, false, false, false, false, false, false, false, false, false, false, false, false] rfl rfl (by kernel_rfl) (fun _ _ _ h => h) (Or.inl ⟨by rfl, ?_⟩) ?_ ?_
      rotate_left
      · intro w'
        go_simp
        with_reducible rfl
      rotate_left
      · simp only [Act.put, List.setIfInBounds_toArray, List.set_cons_zero, List.set_cons_succ, i64_w, i32_w]
        rfl
      refine pure_ (i := 6) (N := some 38) (v := ?_) (a' := ?_) #[true, true, true, true, true, true, true, false, false, false, false, false, false, false, false, false, false, false, false, false, false, false, false] rfl rfl (by kernel_rfl) (fun _ _ _ h => h) (Or.inl ⟨by rfl, ?_⟩) ?_ ?_
      rotate_left
      · intro w'
        go_simp
        with_reducible rfl
      rotate_left
      · simp only [Act.put, List.setIfInBounds_toArray, List.set_cons_zero, List.set_cons_succ, i64_w, i32_w]
        rfl
      refine pure_ (i := 7) (N := some 39) (v := ?_) (a' := ?_) #[true, true, true, true, true, true, true, true, false, false, false, false, false, false, false, false, false, false, false, false, false, false, false] rfl rfl (by kernel_rfl) (fun _ _ _ h => h) (Or.inl ⟨by rfl, ?_⟩) ?_ ?_
      rotate_left
      · intro w'
        go_simp
        with_reducible rfl
      rotate_left
      · simp only [Act.put, List.setIfInBounds_toArray, List.set_cons_zero, List.set_cons_succ, i64_w, i32_w]
        rfl
      refine pure_ (i := 8) (N := some 40) (v := ?_) (a' := ?_) #[true, true, true, true, true, true, true, true, true, false, false, false, false, false, false, false, false, false, false, false, false, false, false] rfl rfl (by kernel_rfl) (fun _ _ _ h => h) (Or.inl ⟨by rfl, ?_⟩) ?_ ?_
      rotate_left
      · intro w'
        go_simp
        with_reducible rfl
      rotate_left
      · simp only [Act.put, List.setIfInBounds_toArray, List.set_cons_zero, List.set_cons_succ, i64_w, i32_w]
        rfl
      refine take_ (i := 9) (N := some 41) (v := ?_) (a' := ?_) #[true, true, true, true, true, true, true, true, true, true, false, false, false, false, false, false, false, false, false, false, false, false, false] rfl rfl (by kernel_rfl) (fun _ _ _ h => h) (Or.inl ⟨by rfl, ?_⟩) hHeld ?_ ?_
      rotate_left
      · rintro w' s0
        have hz0 := blk_below hold_b3 s0
        have yy00 := (blk_cell hz0 0).trans rfl
        have yy01 := (blk_cell hz0 1).trans rfl
        have yy02 := (blk_cell hz0 2).trans rfl
        have yy03 := (blk_cell hz0 3).trans rfl
        go_simp
        with_reducible rfl
      rotate_left
      · simp only [Act.put, List.setIfInBounds_toArray, List.set_cons_zero, List.set_cons_succ, i64_w, i32_w]
        rfl
      refine take_ (i := 11) (N := some 43) (v := ?_) (a' := ?_) #[true, true, true, true, true, true, true, true, true, true, false, true, false, false, false, false, false, false, false, false, false, false, false] rfl rfl (by kernel_rfl) (fun _ _ _ h => h) (Or.inl ⟨by rfl, ?_⟩) hHeld ?_ ?_
      rotate_left
      · rintro w' s0
        have hz0 := blk_below hold_b3 s0
        have yy00 := (blk_cell hz0 0).trans rfl
        have yy01 := (blk_cell hz0 1).trans rfl
        have yy02 := (blk_cell hz0 2).trans rfl
        have yy03 := (blk_cell hz0 3).trans rfl
        go_simp
        with_reducible rfl
      rotate_left
      · simp only [Act.put, List.setIfInBounds_toArray, List.set_cons_zero, List.set_cons_succ, i64_w, i32_w]
        rfl
      refine one_ (i := 10) (N := some 42) #[true, true, true, true, true, true, true, true, true, true, true, true, false, false, false, false, false, false, false, false, false, false, false] rfl rfl (by kernel_rfl) (by decide) (fun K hK => ?_)
      refine goes_ Try.func22 (by kernel_rfl) rfl #[(.agg #[.slice P0 d.s.length p0, .slice Q0 d.p.length q0, .int .i64 d.left, .bool d.st])] (by rfl) rfl rfl (by (try simp only [List.map_toArray, List.map_cons, List.map_nil]); first | done | rfl) ?_
      refine (check_says _ d _ (DiskF.V F40_.out)).mono ?_
      rintro e w10 ⟨rfl, hb⟩
      refine ⟨_, rfl, ?_⟩
      refine hK.out _ _ (below_step hHeld hb) (fun hHeld => ?_)
      clear hK K
      refine norm_ (a' := ?_) ?_ ?_
      rotate_left
      · show Act.put _ (some 42) _ = _
        simp only [Act.put, List.setIfInBounds_toArray, List.set_cons_zero, List.set_cons_succ, i64_w, i32_w]
        rfl
      have F47_ := Aside0.mk (DiskF.below F40_.out hb)
      have F48_ := Aside0.mk (below_step F41_.out hb)
      have F49_ := Aside0.mk (blk_below F42_.out hb)
      have F50_ := Aside0.mk (DiskF.below F43_.out hb)
      have F51_ := Aside0.mk (blk_below F44_.out hb)
      have F52_ := Aside0.mk (DiskF.below F45_.out hb)
      have F53_ := Aside0.mk (blk_below F46_.out hb)
      clear F40_ F41_ F42_ F43_ F44_ F45_ F46_
      clear hb
      refine one_ (i := 12) (N := some 44) #[true, true, true, true, true, true, true, true, true, true, true, true, true, false, false, false, false, false, false, false, false, false, false] rfl rfl (by kernel_rfl) (by decide) (fun K hK => ?_)
      refine goes_ Try.func23 (by kernel_rfl) rfl #[(.agg #[.slice P0 d.s.length p0, .slice Q0 d.p.length q0, .int .i64 d.left, .bool d.st])] (by rfl) rfl rfl (by (try simp only [List.map_toArray, List.map_cons, List.map_nil]); first | done | rfl) ?_
      refine (refcheck_says _ d _ (DiskF.V F47_.out)).mono ?_
      rintro e w11 ⟨rfl, hb⟩
      refine ⟨_, rfl, ?_⟩
      refine hK.out _ _ (below_step hHeld hb) (fun hHeld => ?_)
      clear hK K
      refine norm_ (a' := ?_) ?_ ?_
      rotate_left
      · show Act.put _ (some 44) _ = _
        simp only [Act.put, List.setIfInBounds_toArray, List.set_cons_zero, List.set_cons_succ, i64_w, i32_w]
        rfl
      have F54_ := Aside0.mk (DiskF.below F47_.out hb)
      have F55_ := Aside0.mk (below_step F48_.out hb)
      have F56_ := Aside0.mk (blk_below F49_.out hb)
      have F57_ := Aside0.mk (DiskF.below F50_.out hb)
      have F58_ := Aside0.mk (blk_below F51_.out hb)
      have F59_ := Aside0.mk (DiskF.below F52_.out hb)
      have F60_ := Aside0.mk (blk_below F53_.out hb)
      clear F47_ F48_ F49_ F50_ F51_ F52_ F53_
      clear hb
      refine pure_ (i := 13) (N := some 45) (v := ?_) (a' := ?_) #[true, true, true, true, true, true, true, true, true, true, true, true, true, true, false, false, false, false, false, false, false, false, false] rfl rfl (by kernel_rfl) (fun _ _ _ h => h) (Or.inl ⟨by rfl, ?_⟩) ?_ ?_
      rotate_left
      · intro w'
        go_simp
        with_reducible rfl
      rotate_left
      · simp only [Act.put, List.setIfInBounds_toArray, List.set_cons_zero, List.set_cons_succ, i64_w, i32_w]
        rfl
      refine pure_ (i := 14) (N := some 46) (v := ?_) (a' := ?_) #[true, true, true, true, true, true, true, true, true, true, true, true, true, true, true, false, false, false, false, false, false, false, false] rfl rfl (by kernel_rfl) (fun _ _ _ h => h) (Or.inl ⟨by rfl, ?_⟩) ?_ ?_
      rotate_left
      · intro w'
        go_simp
        with_reducible rfl
      rotate_left
      · simp only [Act.put, List.setIfInBounds_toArray, List.set_cons_zero, List.set_cons_succ, i64_w, i32_w]
        rfl
      refine pure_ (i := 15) (N := some 47) (v := ?_) (a' := ?_) #[true, true, true, true, true, true, true, true, true, true, true, true, true, true, true, true, false, false, false, false, false, false, false] rfl rfl (by kernel_rfl) (fun _ _ _ h => h) (Or.inl ⟨by rfl, ?_⟩) ?_ ?_
      rotate_left
      · intro w'
        go_simp
        with_reducible rfl
      rotate_left
      · simp only [Act.put, List.setIfInBounds_toArray, List.set_cons_zero, List.set_cons_succ, i64_w, i32_w]
        rfl
      refine take_ (i := 16) (N := some 48) (v := ?_) (a' := ?_) #[true, true, true, true, true, true, true, true, true, true, true, true, true, true, true, true, true, false, false, false, false, false, false] rfl rfl (by kernel_rfl) (fun _ _ _ h => h) (Or.inl ⟨by rfl, ?_⟩) hHeld ?_ ?_
      rotate_left
      · rintro w' s0
        have hz0 := blk_below hold_b3 s0
        have yy00 := (blk_cell hz0 0).trans rfl
        have yy01 := (blk_cell hz0 1).trans rfl
        have yy02 := (blk_cell hz0 2).trans rfl
        have yy03 := (blk_cell hz0 3).trans rfl
        go_simp
        with_reducible rfl
      rotate_left
      · simp only [Act.put, List.setIfInBounds_toArray, List.set_cons_zero, List.set_cons_succ, i64_w, i32_w]
        rfl
      refine take_ (i := 18) (N := some 50) (v := ?_) (a' := ?_) #[true, true, true, true, true, true, true, true, true, true, true, true, true, true, true, true, true, false, true, false, false, false, false] rfl rfl (by kernel_rfl) (fun _ _ _ h => h) (Or.inl ⟨by rfl, ?_⟩) hHeld ?_ ?_
      rotate_left
      · rintro w' s0
        have hz0 := blk_below hold_b3 s0
        have yy00 := (blk_cell hz0 0).trans rfl
        have yy01 := (blk_cell hz0 1).trans rfl
        have yy02 := (blk_cell hz0 2).trans rfl
        have yy03 := (blk_cell hz0 3).trans rfl
        go_simp
        with_reducible rfl
      rotate_left
      · simp only [Act.put, List.setIfInBounds_toArray, List.set_cons_zero, List.set_cons_succ, i64_w, i32_w]
        rfl
      refine one_ (i := 17) (N := some 49) #[true, true, true, true, true, true, true, true, true, true, true, true, true, true, true, true, true, true, true, false, false, false, false] rfl rfl (by kernel_rfl) (by decide) (fun K hK => ?_)
      refine goes_ Try.func24 (by kernel_rfl) rfl #[(.agg #[.slice P0 d.s.length p0, .slice Q0 d.p.length q0, .int .i64 d.left, .bool d.st])] (by rfl) rfl rfl (by (try simp only [List.map_toArray, List.map_cons, List.map_nil]); first | done | rfl) ?_
      refine ((restart_says _ d _ (DiskF.V F54_.out)).mono (fun e w' h => DV.of h hR.out)).mono ?_
      rintro e w12 ⟨⟨P3, p3, Q3, q3, rfl, hd⟩, hb⟩
      refine ⟨_, rfl, ?_⟩
      refine hK.out _ _ (below_step hHeld hb) (fun hHeld => ?_)
      clear hK K
      refine norm_ (a' := ?_) ?_ ?_
      rotate_left
      · show Act.put _ (some 49) _ = _
        simp only [Act.put, List.setIfInBounds_toArray, List.set_cons_zero, List.set_cons_succ, i64_w, i32_w]
        rfl
      have F61_ := Aside0.mk (DiskF.below F54_.out hb)
      have F62_ := Aside0.mk (below_step F55_.out hb)
      have F63_ := Aside0.mk (blk_below F56_.out hb)
      have F64_ := Aside0.mk (DiskF.below F57_.out hb)
      have F65_ := Aside0.mk (blk_below F58_.out hb)
      have F66_ := Aside0.mk (DiskF.below F59_.out hb)
      have F67_ := Aside0.mk (blk_below F60_.out hb)
      clear F54_ F55_ F56_ F57_ F58_ F59_ F60_
      have F68_ := Aside0.mk (DiskV.F hd)
      clear hb
      refine one_ (i := 19) (N := some 51) #[true, true, true, true, true, true, true, true, true, true, true, true, true, true, true, true, true, true, true, true, false, false, false] rfl rfl (by kernel_rfl) (by decide) (fun K hK => ?_)
      refine goes_ Try.func25 (by kernel_rfl) rfl #[(.agg #[.slice P0 d.s.length p0, .slice Q0 d.p.length q0, .int .i64 d.left, .bool d.st])] (by rfl) rfl rfl (by (try simp only [List.map_toArray, List.map_cons, List.map_nil]); first | done | rfl) ?_
      refine ((refrestart_says _ d _ (DiskF.V F61_.out)).mono (fun e w' h => DV.of h hR.out)).mono ?_
      rintro e w13 ⟨⟨P4, p4, Q4, q4, rfl, hd⟩, hb⟩
      refine ⟨_, rfl, ?_⟩
      refine hK.out _ _ (below_step hHeld hb) (fun hHeld => ?_)
      clear hK K
      refine norm_ (a' := ?_) ?_ ?_
      rotate_left
      · show Act.put _ (some 51) _ = _
        simp only [Act.put, List.setIfInBounds_toArray, List.set_cons_zero, List.set_cons_succ, i64_w, i32_w]
        rfl
      have F69_ := Aside0.mk (DiskF.below F61_.out hb)
      have F70_ := Aside0.mk (below_step F62_.out hb)
      have F71_ := Aside0.mk (blk_below F63_.out hb)
      have F72_ := Aside0.mk (DiskF.below F64_.out hb)
      have F73_ := Aside0.mk (blk_below F65_.out hb)
      have F74_ := Aside0.mk (DiskF.below F66_.out hb)
      have F75_ := Aside0.mk (blk_below F67_.out hb)
      have F76_ := Aside0.mk (DiskF.below F68_.out hb)
      clear F61_ F62_ F63_ F64_ F65_ F66_ F67_ F68_
      have F77_ := Aside0.mk (DiskV.F hd)
      clear hb
      refine one_ (i := 20) (N := some 52) #[true, true, true, true, true, true, true, true, true, true, true, true, true, true, true, true, true, true, true, true, true, false, false] rfl rfl (by kernel_rfl) (by decide) (fun K hK => ?_)
      refine goes_ Try.func21 (by kernel_rfl) rfl #[(.agg #[.slice P3 Rd.s.length p3, .slice Q3 Rd.p.length q3, .int .i64 Rd.left, .bool Rd.st]), (.agg #[.slice P4 Rd.s.length p4, .slice Q4 Rd.p.length q4, .int .i64 Rd.left, .bool Rd.st])] (by rfl) rfl rfl (by (try simp only [List.map_toArray, List.map_cons, List.map_nil]); first | done | rfl) ?_
      refine (same_says _ _ Rd _ (DiskF.V F76_.out) (DiskF.V F77_.out)).mono ?_
      rintro e w14 ⟨rfl, hb⟩
      refine ⟨_, rfl, ?_⟩
      refine hK.out _ _ (below_step hHeld hb) (fun hHeld => ?_)
      clear hK K
      refine norm_ (a' := ?_) ?_ ?_
      rotate_left
      · show Act.put _ (some 52) _ = _
        simp only [Act.put, List.setIfInBounds_toArray, List.set_cons_zero, List.set_cons_succ, i64_w, i32_w]
        rfl
      have F78_ := Aside0.mk (DiskF.below F69_.out hb)
      have F79_ := Aside0.mk (below_step F70_.out hb)
      have F80_ := Aside0.mk (blk_below F71_.out hb)
      have F81_ := Aside0.mk (DiskF.below F72_.out hb)
      have F82_ := Aside0.mk (blk_below F73_.out hb)
      have F83_ := Aside0.mk (DiskF.below F74_.out hb)
      have F84_ := Aside0.mk (blk_below F75_.out hb)
      have F85_ := Aside0.mk (DiskF.below F76_.out hb)
      have F86_ := Aside0.mk (DiskF.below F77_.out hb)
      clear F69_ F70_ F71_ F72_ F73_ F74_ F75_ F76_ F77_
      clear hb
      refine pure_ (i := 21) (N := some 53) (v := ?_) (a' := ?_) #[true, true, true, true, true, true, true, true, true, true, true, true, true, true, true, true, true, true, true, true, true, true, false] rfl rfl (by kernel_rfl) (fun _ _ _ h => h) (Or.inl ⟨by rfl, ?_⟩) ?_ ?_
      rotate_left
      · intro w'
        go_simp
        with_reducible rfl
      rotate_left
      · simp only [Act.put, List.setIfInBounds_toArray, List.set_cons_zero, List.set_cons_succ, i64_w, i32_w]
        rfl
      refine pure_ (i := 22) (N := some 4) (v := ?_) (a' := ?_) #[true, true, true, true, true, true, true, true, true, true, true, true, true, true, true, true, true, true, true, true, true, true, true] rfl rfl (by kernel_rfl) (fun _ _ _ h => h) (Or.inl ⟨by rfl, ?_⟩) ?_ ?_
      rotate_left
      · intro w'
        go_simp
        with_reducible rfl
      rotate_left
      · simp only [Act.put, List.setIfInBounds_toArray, List.set_cons_zero, List.set_cons_succ, i64_w, i32_w]
        rfl
      refine done_ (by kernel_rfl) ?_
      go_wp2
      go_ret
      exact ⟨rfl, F79_.out⟩
set_option maxHeartbeats 8000000 in
set_option maxRecDepth 100000 in
theorem newSpec_b (n : Int) (P0 : Option Addr) (p0 : Nat) (Q0 : Option Addr) (q0 : Nat) (d : Dk) (w : World) (h : DiskV w (.agg #[.slice P0 d.s.length p0, .slice Q0 d.p.length q0, .int .i64 d.left, .bool d.st]) d) (h1 : 60 < n) (h2 : ¬ n ≤ 4096) : Calls Try.prog 3 #[.int .i64 n, (.agg #[.slice P0 d.s.length p0, .slice Q0 d.p.length q0, .int .i64 d.left, .bool d.st])] w fun e w' => e = .returned (.bool true) ∧ Below w.heap.size w w' := by
  have hu25 := Try.underlying25
  have D0 := Aside0.mk (DiskV.F h)
  have F1_ := Aside0.mk (Below.refl w.heap.size w)
  clear h
  have q1 : decide ((60 : Int) < n) = true := decide_eq_true h1
  have q2 : decide (n ≤ (4096 : Int)) = false := decide_eq_false h2
  clear h1 h2
  obtain ⟨Dn, En, hn⟩ : ∃ Dn En, Aside0 (newD n = (Dn, En)) := ⟨_, _, ⟨rfl⟩⟩
  obtain ⟨Rd, hR⟩ : ∃ x, Aside0 (x = restartD d) := ⟨_, ⟨rfl⟩⟩
  go_enter Try.func3, Try.ntmps3
  go_upto_region 1 with (fail)
  have F2_ := Aside0.mk (DiskF.below D0.out (below_alloc (Below.refl _ _) (.cells #[.slice P0 d.s.length p0, .slice Q0 d.p.length q0, .int .i64 d.left, .bool d.st] 25)))
  have F3_ := Aside0.mk (below_alloc F1_.out (.cells #[.slice P0 d.s.length p0, .slice Q0 d.p.length q0, .int .i64 d.left, .bool d.st] 25))
  clear D0 F1_
  have F4_ := Aside0.mk (blk_new w (.cells #[.slice P0 d.s.length p0, .slice Q0 d.p.length q0, .int .i64 d.left, .bool d.st] 25))
  generalize w.alloc (.cells #[.slice P0 d.s.length p0, .slice Q0 d.p.length q0, .int .i64 d.left, .bool d.st] 25) = w1 at *
  go_upto_region 3 with (go_at_call 17; (refine (sane_says _).mono ?_); rintro e w2 ⟨rfl, hb⟩; have F5_ := Aside0.mk (DiskF.below F2_.out hb); have F6_ := Aside0.mk (below_step F3_.out hb); have F7_ := Aside0.mk (blk_below F4_.out hb); clear F2_ F3_ F4_; clear hb)
  have y0 := (blk_cell F7_.out 0).trans rfl
  have y1 := (blk_cell F7_.out 1).trans rfl
  have y2 := (blk_cell F7_.out 2).trans rfl
  have y3 := (blk_cell F7_.out 3).trans rfl
  obtain ⟨r, hr⟩ : ∃ r : Bool, Aside0 (∀ w', Below w2.heap.size w2 w' → Calls Try.prog 18 #[(.agg #[.slice P0 d.s.length p0, .slice Q0 d.p.length q0, .int .i64 d.left, .bool d.st])] w' fun e w'' => e = .returned (.bool r) ∧ Below w'.heap.size w' w'') := few_one F5_.out
  cases r with
    | false =>
      go_wp2_with (go_at_call 18; (refine (hr.out _ (Below.refl _ _)).mono ?_); rintro e w3 ⟨rfl, hb⟩; have F8_ := Aside0.mk (DiskF.below F5_.out hb); have F9_ := Aside0.mk (below_step F6_.out hb); have F10_ := Aside0.mk (blk_below F7_.out hb); clear F5_ F6_ F7_; clear hb)
      go_ret
      exact ⟨rfl, F9_.out⟩
    | true =>
      go_upto_region 5 with (go_at_call 18; (refine (hr.out _ (Below.refl _ _)).mono ?_); rintro e w3 ⟨rfl, hb⟩; have F8_ := Aside0.mk (DiskF.below F5_.out hb); have F9_ := Aside0.mk (below_step F6_.out hb); have F10_ := Aside0.mk (blk_below F7_.out hb); clear F5_ F6_ F7_; clear hb)
      clear y0 y1 y2 y3
      go_upto_region 6 with (go_at_call 19; (refine ((new_says n _).mono (fun e w' h => DE.of h hn.out)).mono ?_); rintro e w4 ⟨⟨P1, p1, Q1, q1, rfl, hd⟩, hb⟩; have F11_ := Aside0.mk (DiskF.below F8_.out hb); have F12_ := Aside0.mk (below_step F9_.out hb); have F13_ := Aside0.mk (blk_below F10_.out hb); clear F8_ F9_ F10_; have F14_ := Aside0.mk (DiskV.F hd); clear hd hb)
      have F15_ := Aside0.mk (DiskF.below F11_.out (below_alloc (Below.refl _ _) (.cells #[.slice P1 Dn.s.length p1, .slice Q1 Dn.p.length q1, .int .i64 Dn.left, .bool Dn.st] 25)))
      have F16_ := Aside0.mk (below_alloc F12_.out (.cells #[.slice P1 Dn.s.length p1, .slice Q1 Dn.p.length q1, .int .i64 Dn.left, .bool Dn.st] 25))
      have F17_ := Aside0.mk (blk_alloc F13_.out (.cells #[.slice P1 Dn.s.length p1, .slice Q1 Dn.p.length q1, .int .i64 Dn.left, .bool Dn.st] 25))
      have F18_ := Aside0.mk (DiskF.below F14_.out (below_alloc (Below.refl _ _) (.cells #[.slice P1 Dn.s.length p1, .slice Q1 Dn.p.length q1, .int .i64 Dn.left, .bool Dn.st] 25)))
      clear F11_ F12_ F13_ F14_
      have F19_ := Aside0.mk (blk_new w4 (.cells #[.slice P1 Dn.s.length p1, .slice Q1 Dn.p.length q1, .int .i64 Dn.left, .bool Dn.st] 25))
      generalize w4.alloc (.cells #[.slice P1 Dn.s.length p1, .slice Q1 Dn.p.length q1, .int .i64 Dn.left, .bool Dn.st] 25) = w5 at *
      generalize w4.heap.size = b5 at *
      go_upto_region 7 with (go_at_call 20; (refine ((refnew_says n _).mono (fun e w' h => DE.of h hn.out)).mono ?_); rintro e w6 ⟨⟨P2, p2, Q2, q2, rfl, hd⟩, hb⟩; have F20_ := Aside0.mk (DiskF.below F15_.out hb); have F21_ := Aside0.mk (below_step F16_.out hb); have F22_ := Aside0.mk (blk_below F17_.out hb); have F23_ := Aside0.mk (DiskF.below F18_.out hb); have F24_ := Aside0.mk (blk_below F19_.out hb); clear F15_ F16_ F17_ F18_ F19_; have F25_ := Aside0.mk (DiskV.F hd); clear hd hb)
      have F26_ := Aside0.mk (DiskF.below F20_.out (below_alloc (Below.refl _ _) (.cells #[.slice P2 Dn.s.length p2, .slice Q2 Dn.p.length q2, .int .i64 Dn.left, .bool Dn.st] 25)))
      have F27_ := Aside0.mk (below_alloc F21_.out (.cells #[.slice P2 Dn.s.length p2, .slice Q2 Dn.p.length q2, .int .i64 Dn.left, .bool Dn.st] 25))
      have F28_ := Aside0.mk (blk_alloc F22_.out (.cells #[.slice P2 Dn.s.length p2, .slice Q2 Dn.p.length q2, .int .i64 Dn.left, .bool Dn.st] 25))
      have F29_ := Aside0.mk (DiskF.below F23_.out (below_alloc (Below.refl _ _) (.cells #[.slice P2 Dn.s.length p2, .slice Q2 Dn.p.length q2, .int .i64 Dn.left, .bool Dn.st] 25)))
      have F30_ := Aside0.mk (blk_alloc F24_.out (.cells #[.slice P2 Dn.s.length p2, .slice Q2 Dn.p.length q2, .int .i64 Dn.left, .bool Dn.st] 25))
      have F31_ := Aside0.mk (DiskF.below F25_.out (below_alloc (Below.refl _ _) (.cells #[.slice P2 Dn.s.length p2, .slice Q2 Dn.p.length q2, .int .i64 Dn.left, .bool Dn.st] 25)))
      clear F20_ F21_ F22_ F23_ F24_ F25_
      have F32_ := Aside0.mk (blk_new w6 (.cells #[.slice P2 Dn.s.length p2, .slice Q2 Dn.p.length q2, .int .i64 Dn.left, .bool Dn.st] 25))
      generalize w6.alloc (.cells #[.slice P2 Dn.s.length p2, .slice Q2 Dn.p.length q2, .int .i64 Dn.left, .bool Dn.st] 25) = w7 at *
      generalize w6.heap.size = b7 at *
      refine start_ (n := 23) (S := fun w' => Below w7.drew.heap.size w7.drew w') (ds := []) #[false, false, false, false, false, false, false, false, false, false, false, false, false, false, false, false, false, false, false, false, false, false, false] (by kernel_rfl) rfl rfl (Below.refl _ _) (fun hHeld => ?_)
      have F33_ := Aside0.mk (DiskF.below F26_.out (below_drew1 (Below.refl _ _)))
      have F34_ := Aside0.mk (below_drew1 F27_.out)
      have F35_ := Aside0.mk (blk_drew F28_.out)
      have F36_ := Aside0.mk (DiskF.below F29_.out (below_drew1 (Below.refl _ _)))
      have F37_ := Aside0.mk (blk_drew F30_.out)
      have F38_ := Aside0.mk (DiskF.below F31_.out (below_drew1 (Below.refl _ _)))
      have F39_ := Aside0.mk (blk_drew F32_.out)
      clear F26_ F27_ F28_ F29_ F30_ F31_ F32_
      generalize w7.drew = w8 at *
      have hold_b3 := F35_.out
      have hold_b5 := F37_.out
      have hold_b7 := F39_.out
      refine take_ (i := 0) (N := some 32) (v := ?_) (a' := ?_) #[true, false, false, false, false, false, false, false, false, false, false, false, false, false, false, false, false, false, false, false, false, false, false] rfl rfl (by kernel_rfl) (fun _ _ _ h => h) (Or.inl ⟨by rfl, ?_⟩) hHeld ?_ ?_
      rotate_left
      · rintro w' s0
        have hz0 := blk_below hold_b5 s0
        have yy00 := (blk_cell hz0 0).trans rfl
        have yy01 := (blk_cell hz0 1).trans rfl
        have yy02 := (blk_cell hz0 2).trans rfl
        have yy03 := (blk_cell hz0 3).trans rfl
        go_simp
        with_reducible rfl
      rotate_left
      · simp only [Act.put, List.setIfInBounds_toArray, List.set_cons_zero, List.set_cons_succ, i64_w, i32_w]
        rfl
      refine take_ (i := 1) (N := some 33) (v := ?_) (a' := ?_) #[true, true, false, false, false, false, false, false, false, false, false, false, false, false, false, false, false, false, false, false, false, false, false] rfl rfl (by kernel_rfl) (fun _ _ _ h => h) (Or.inl ⟨by rfl, ?_⟩) hHeld ?_ ?_
      rotate_left
      · rintro w' s0
        have hz0 := blk_below hold_b7 s0
        have yy00 := (blk_cell hz0 0).trans rfl
        have yy01 := (blk_cell hz0 1).trans rfl
        have yy02 := (blk_cell hz0 2).trans rfl
        have yy03 := (blk_cell hz0 3).trans rfl
        go_simp
        with_reducible rfl
      rotate_left
      · simp only [Act.put, List.setIfInBounds_toArray, List.set_cons_zero, List.set_cons_succ, i64_w, i32_w]
        rfl
      refine one_ (i := 2) (N := some 34) #[true, true, true, false, false, false, false, false, false, false, false, false, false, false, false, false, false, false, false, false, false, false, false] rfl rfl (by kernel_rfl) (by decide) (fun K hK => ?_)
      refine goes_ Try.func21 (by kernel_rfl) rfl #[(.agg #[.slice P1 Dn.s.length p1, .slice Q1 Dn.p.length q1, .int .i64 Dn.left, .bool Dn.st]), (.agg #[.slice P2 Dn.s.length p2, .slice Q2 Dn.p.length q2, .int .i64 Dn.left, .bool Dn.st])] (by rfl) rfl rfl (by (try simp only [List.map_toArray, List.map_cons, List.map_nil]); first | done | rfl) ?_
      refine (same_says _ _ Dn _ (DiskF.V F36_.out) (DiskF.V F38_.out)).mono ?_
      rintro e w9 ⟨rfl, hb⟩
      refine ⟨_, rfl, ?_⟩
      refine hK.out _ _ (below_step hHeld hb) (fun hHeld => ?_)
      clear hK K
      refine norm_ (a' := ?_) ?_ ?_
      rotate_left
      · show Act.put _ (some 34) _ = _
        simp only [Act.put, List.setIfInBounds_toArray, List.set_cons_zero, List.set_cons_succ, i64_w, i32_w]
        rfl
      have F40_ := Aside0.mk (DiskF.below F33_.out hb)
      have F41_ := Aside0.mk (below_step F34_.out hb)
      have F42_ := Aside0.mk (blk_below F35_.out hb)
      have F43_ := Aside0.mk (DiskF.below F36_.out hb)
      have F44_ := Aside0.mk (blk_below F37_.out hb)
      have F45_ := Aside0.mk (DiskF.below F38_.out hb)
      have F46_ := Aside0.mk (blk_below F39_.out hb)
      clear F33_ F34_ F35_ F36_ F37_ F38_ F39_
      clear hb
      refine pure_ (i := 3) (N := some 35) (v := ?_) (a' := ?_) #[true, true, true, true, false, false, false, false, false, false, false, false, false, false, false, false, false, false, false, false, false, false, false] rfl rfl (by kernel_rfl) (fun _ _ _ h => h) (Or.inl ⟨by rfl, ?_⟩) ?_ ?_
      rotate_left
      · intro w'
        go_simp
        with_reducible rfl
      rotate_left
      · simp only [Act.put, List.setIfInBounds_toArray, List.set_cons_zero, List.set_cons_succ, i64_w, i32_w]
        rfl
      refine pure_ (i := 4) (N := some 36) (v := ?_) (a' := ?_) #[true, true, true, true, true, false, false, false, false, false, false, false, false, false, false, false, false, false, false, false, false, false, false] rfl rfl (by kernel_rfl) (fun _ _ _ h => h) (Or.inl ⟨by rfl, ?_⟩) ?_ ?_
      rotate_left
      · intro w'
        go_simp
        with_reducible rfl
      rotate_left
      · simp only [Act.put, List.setIfInBounds_toArray, List.set_cons_zero, List.set_cons_succ, i64_w, i32_w]
        rfl
      refine pure_ (i := 5) (N := some 37) (v := ?_) (a' := ?_) #[true, true, true, true, true, true, false, false, false, false, false, false, false, false, false, false, false, false, false, false, false, false, false] rfl rfl (by kernel_rfl) (fun _ _ _ h => h) (Or.inl ⟨by rfl, ?_⟩) ?_ ?_
      rotate_left
      · intro w'
        go_simp
        with_reducible rfl
      rotate_left
      · simp only [Act.put, List.setIfInBounds_toArray, List.set_cons_zero, List.set_cons_succ, i64_w, i32_w]
        rfl
      refine pure_ (i := 6) (N := some 38) (v := ?_) (a' := ?_) #[true, true, true, true, true, true, true, false, false, false, false, false, false, false, false, false, false, false, false, false, false, false, false] rfl rfl (by kernel_rfl) (fun _ _ _ h => h) (Or.inl ⟨by rfl, ?_⟩) ?_ ?_
      rotate_left
      · intro w'
        go_simp
        with_reducible rfl
      rotate_left
      · simp only [Act.put, List.setIfInBounds_toArray, List.set_cons_zero, List.set_cons_succ, i64_w, i32_w]
        rfl
      refine pure_ (i := 7) (N := some 39) (v := ?_) (a' := ?_) #[true, true, true, true, true, true, true, true, false, false, false, false, false, false, false, false, false, false, false, false, false, false, false] rfl rfl (by kernel_rfl) (fun _ _ _ h => h) (Or.inl ⟨by rfl, ?_⟩) ?_ ?_
      rotate_left
      · intro w'
        go_simp
        with_reducible rfl
      rotate_left
      · simp only [Act.put, List.setIfInBounds_toArray, List.set_cons_zero, List.set_cons_succ, i64_w, i32_w]
        rfl
      refine pure_ (i := 8) (N := some 40) (v := ?_) (a' := ?_) #[true, true, true, true, true, true, true, true, true, false, false, false, false, false, false, false, false, false, false, false, false, false, false] rfl rfl (by kernel_rfl) (fun _ _ _ h => h) (Or.inl ⟨by rfl, ?_⟩) ?_ ?_
      rotate_left
      · intro w'
        go_simp
        with_reducible rfl
      rotate_left
      · simp only [Act.put, List.setIfInBounds_toArray, List.set_cons_zero, List.set_cons_succ, i64_w, i32_w]
        rfl
      refine take_ (i := 9) (N := some 41) (v := ?_) (a' := ?_) #[true, true, true, true, true, true, true, true, true, true, false, false, false, false, false, false, false, false, false, false, false, false, false] rfl rfl (by kernel_rfl) (fun _ _ _ h => h) (Or.inl ⟨by rfl, ?_⟩) hHeld ?_ ?_
      rotate_left
      · rintro w' s0
        have hz0 := blk_below hold_b3 s0
        have yy00 := (blk_cell hz0 0).trans rfl
        have yy01 := (blk_cell hz0 1).trans rfl
        have yy02 := (blk_cell hz0 2).trans rfl
        have yy03 := (blk_cell hz0 3).trans rfl
        go_simp
        with_reducible rfl
      rotate_left
      · simp only [Act.put, List.setIfInBounds_toArray, List.set_cons_zero, List.set_cons_succ, i64_w, i32_w]
        rfl
      refine take_ (i := 11) (N := some 43) (v := ?_) (a' := ?_) #[true, true, true, true, true, true, true, true, true, true, false, true, false, false, false, false, false, false, false, false, false, false, false] rfl rfl (by kernel_rfl) (fun _ _ _ h => h) (Or.inl ⟨by rfl, ?_⟩) hHeld ?_ ?_
      rotate_left
      · rintro w' s0
        have hz0 := blk_below hold_b3 s0
        have yy00 := (blk_cell hz0 0).trans rfl
        have yy01 := (blk_cell hz0 1).trans rfl
        have yy02 := (blk_cell hz0 2).trans rfl
        have yy03 := (blk_cell hz0 3).trans rfl
        go_simp
        with_reducible rfl
      rotate_left
      · simp only [Act.put, List.setIfInBounds_toArray, List.set_cons_zero, List.set_cons_succ, i64_w, i32_w]
        rfl
      refine one_ (i := 10) (N := some 42) #[true, true, true, true, true, true, true, true, true, true, true, true, false, false, false, false, false, false, false, false, false, false, false] rfl rfl (by kernel_rfl) (by decide) (fun K hK => ?_)
      refine goes_ Try.func22 (by kernel_rfl) rfl #[(.agg #[.slice P0 d.s.length p0, .slice Q0 d.p.length q0, .int .i64 d.left, .bool d.st])] (by rfl) rfl rfl (by (try simp only [List.map_toArray, List.map_cons, List.map_nil]); first | done | rfl) ?_
      refine (check_says _ d _ (DiskF.V F40_.out)).mono ?_
      rintro e w10 ⟨rfl, hb⟩
      refine ⟨_, rfl, ?_⟩
      refine hK.out _ _ (below_step hHeld hb) (fun hHeld => ?_)
      clear hK K
      refine norm_ (a' := ?_) ?_ ?_
      rotate_left
      · show Act.put _ (some 42) _ = _
        simp only [Act.put, List.setIfInBounds_toArray, List.set_cons_zero, List.set_cons_succ, i64_w, i32_w]
        rfl
      have F47_ := Aside0.mk (DiskF.below F40_.out hb)
      have F48_ := Aside0.mk (below_step F41_.out hb)
      have F49_ := Aside0.mk (blk_below F42_.out hb)
      have F50_ := Aside0.mk (DiskF.below F43_.out hb)
      have F51_ := Aside0.mk (blk_below F44_.out hb)
      have F52_ := Aside0.mk (DiskF.below F45_.out hb)
      have F53_ := Aside0.mk (blk_below F46_.out hb)
      clear F40_ F41_ F42_ F43_ F44_ F45_ F46_
      clear hb
      refine one_ (i := 12) (N := some 44) #[true, true, true, true, true, true, true, true, true, true, true, true, true, false, false, false, false, false, false, false, false, false, false] rfl rfl (by kernel_rfl) (by decide) (fun K hK => ?_)
      refine goes_ Try.func23 (by kernel_rfl) rfl #[(.agg #[.slice P0 d.s.length p0, .slice Q0 d.p.length q0, .int .i64 d.left, .bool d.st])] (by rfl) rfl rfl (by (try simp only [List.map_toArray, List.map_cons, List.map_nil]); first | done | rfl) ?_
      refine (refcheck_says _ d _ (DiskF.V F47_.out)).mono ?_
      rintro e w11 ⟨rfl, hb⟩
      refine ⟨_, rfl, ?_⟩
      refine hK.out _ _ (below_step hHeld hb) (fun hHeld => ?_)
      clear hK K
      refine norm_ (a' := ?_) ?_ ?_
      rotate_left
      · show Act.put _ (some 44) _ = _
        simp only [Act.put, List.setIfInBounds_toArray, List.set_cons_zero, List.set_cons_succ, i64_w, i32_w]
        rfl
      have F54_ := Aside0.mk (DiskF.below F47_.out hb)
      have F55_ := Aside0.mk (below_step F48_.out hb)
      have F56_ := Aside0.mk (blk_below F49_.out hb)
      have F57_ := Aside0.mk (DiskF.below F50_.out hb)
      have F58_ := Aside0.mk (blk_below F51_.out hb)
      have F59_ := Aside0.mk (DiskF.below F52_.out hb)
      have F60_ := Aside0.mk (blk_below F53_.out hb)
      clear F47_ F48_ F49_ F50_ F51_ F52_ F53_
      clear hb
      refine pure_ (i := 13) (N := some 45) (v := ?_) (a' := ?_) #[true, true, true, true, true, true, true, true, true, true, true, true, true, true, false, false, false, false, false, false, false, false, false] rfl rfl (by kernel_rfl) (fun _ _ _ h => h) (Or.inl ⟨by rfl, ?_⟩) ?_ ?_
      rotate_left
      · intro w'
        go_simp
        with_reducible rfl
      rotate_left
      · simp only [Act.put, List.setIfInBounds_toArray, List.set_cons_zero, List.set_cons_succ, i64_w, i32_w]
        rfl
      refine pure_ (i := 14) (N := some 46) (v := ?_) (a' := ?_) #[true, true, true, true, true, true, true, true, true, true, true, true, true, true, true, false, false, false, false, false, false, false, false] rfl rfl (by kernel_rfl) (fun _ _ _ h => h) (Or.inl ⟨by rfl, ?_⟩) ?_ ?_
      rotate_left
      · intro w'
        go_simp
        with_reducible rfl
      rotate_left
      · simp only [Act.put, List.setIfInBounds_toArray, List.set_cons_zero, List.set_cons_succ, i64_w, i32_w]
        rfl
      refine pure_ (i := 15) (N := some 47) (v := ?_) (a' := ?_) #[true, true, true, true, true, true, true, true, true, true, true, true, true, true, true, true, false, false, false, false, false, false, false] rfl rfl (by kernel_rfl) (fun _ _ _ h => h) (Or.inl ⟨by rfl, ?_⟩) ?_ ?_
      rotate_left
      · intro w'
        go_simp
        with_reducible rfl
      rotate_left
      · simp only [Act.put, List.setIfInBounds_toArray, List.set_cons_zero, List.set_cons_succ, i64_w, i32_w]
        rfl
      refine take_ (i := 16) (N := some 48) (v := ?_) (a' := ?_) #[true, true, true, true, true, true, true, true, true, true, true, true, true, true, true, true, true, false, false, false, false, false, false] rfl rfl (by kernel_rfl) (fun _ _ _ h => h) (Or.inl ⟨by rfl, ?_⟩) hHeld ?_ ?_
      rotate_left
      · rintro w' s0
        have hz0 := blk_below hold_b3 s0
        have yy00 := (blk_cell hz0 0).trans rfl
        have yy01 := (blk_cell hz0 1).trans rfl
        have yy02 := (blk_cell hz0 2).trans rfl
        have yy03 := (blk_cell hz0 3).trans rfl
        go_simp
        with_reducible rfl
      rotate_left
      · simp only [Act.put, List.setIfInBounds_toArray, List.set_cons_zero, List.set_cons_succ, i64_w, i32_w]
        rfl
      refine take_ (i := 18) (N := some 50) (v := ?_) (a' := ?_) #[true, true, true, true, true, true, true, true, true, true, true, true, true, true, true, true, true, false, true, false, false, false, false] rfl rfl (by kernel_rfl) (fun _ _ _ h => h) (Or.inl ⟨by rfl, ?_⟩) hHeld ?_ ?_
      rotate_left
      · rintro w' s0
        have hz0 := blk_below hold_b3 s0
        have yy00 := (blk_cell hz0 0).trans rfl
        have yy01 := (blk_cell hz0 1).trans rfl
        have yy02 := (blk_cell hz0 2).trans rfl
        have yy03 := (blk_cell hz0 3).trans rfl
        go_simp
        with_reducible rfl
      rotate_left
      · simp only [Act.put, List.setIfInBounds_toArray, List.set_cons_zero, List.set_cons_succ, i64_w, i32_w]
        rfl
      refine one_ (i := 17) (N := some 49) #[true, true, true, true, true, true, true, true, true, true, true, true, true, true, true, true, true, true, true, false, false, false, false] rfl rfl (by kernel_rfl) (by decide) (fun K hK => ?_)
      refine goes_ Try.func24 (by kernel_rfl) rfl #[(.agg #[.slice P0 d.s.length p0, .slice Q0 d.p.length q0, .int .i64 d.left, .bool d.st])] (by rfl) rfl rfl (by (try simp only [List.map_toArray, List.map_cons, List.map_nil]); first | done | rfl) ?_
      refine ((restart_says _ d _ (DiskF.V F54_.out)).mono (fun e w' h => DV.of h hR.out)).mono ?_
      rintro e w12 ⟨⟨P3, p3, Q3, q3, rfl, hd⟩, hb⟩
      refine ⟨_, rfl, ?_⟩
      refine hK.out _ _ (below_step hHeld hb) (fun hHeld => ?_)
      clear hK K
      refine norm_ (a' := ?_) ?_ ?_
      rotate_left
      · show Act.put _ (some 49) _ = _
        simp only [Act.put, List.setIfInBounds_toArray, List.set_cons_zero, List.set_cons_succ, i64_w, i32_w]
        rfl
      have F61_ := Aside0.mk (DiskF.below F54_.out hb)
      have F62_ := Aside0.mk (below_step F55_.out hb)
      have F63_ := Aside0.mk (blk_below F56_.out hb)
      have F64_ := Aside0.mk (DiskF.below F57_.out hb)
      have F65_ := Aside0.mk (blk_below F58_.out hb)
      have F66_ := Aside0.mk (DiskF.below F59_.out hb)
      have F67_ := Aside0.mk (blk_below F60_.out hb)
      clear F54_ F55_ F56_ F57_ F58_ F59_ F60_
      have F68_ := Aside0.mk (DiskV.F hd)
      clear hb
      refine one_ (i := 19) (N := some 51) #[true, true, true, true, true, true, true, true, true, true, true, true, true, true, true, true, true, true, true, true, false, false, false] rfl rfl (by kernel_rfl) (by decide) (fun K hK => ?_)
      refine goes_ Try.func25 (by kernel_rfl) rfl #[(.agg #[.slice P0 d.s.length p0, .slice Q0 d.p.length q0, .int .i64 d.left, .bool d.st])] (by rfl) rfl rfl (by (try simp only [List.map_toArray, List.map_cons, List.map_nil]); first | done | rfl) ?_
      refine ((refrestart_says _ d _ (DiskF.V F61_.out)).mono (fun e w' h => DV.of h hR.out)).mono ?_
      rintro e w13 ⟨⟨P4, p4, Q4, q4, rfl, hd⟩, hb⟩
      refine ⟨_, rfl, ?_⟩
      refine hK.out _ _ (below_step hHeld hb) (fun hHeld => ?_)
      clear hK K
      refine norm_ (a' := ?_) ?_ ?_
      rotate_left
      · show Act.put _ (some 51) _ = _
        simp only [Act.put, List.setIfInBounds_toArray, List.set_cons_zero, List.set_cons_succ, i64_w, i32_w]
        rfl
      have F69_ := Aside0.mk (DiskF.below F61_.out hb)
      have F70_ := Aside0.mk (below_step F62_.out hb)
      have F71_ := Aside0.mk (blk_below F63_.out hb)
      have F72_ := Aside0.mk (DiskF.below F64_.out hb)
      have F73_ := Aside0.mk (blk_below F65_.out hb)
      have F74_ := Aside0.mk (DiskF.below F66_.out hb)
      have F75_ := Aside0.mk (blk_below F67_.out hb)
      have F76_ := Aside0.mk (DiskF.below F68_.out hb)
      clear F61_ F62_ F63_ F64_ F65_ F66_ F67_ F68_
      have F77_ := Aside0.mk (DiskV.F hd)
      clear hb
      refine one_ (i := 20) (N := some 52) #[true, true, true, true, true, true, true, true, true, true, true, true, true, true, true, true, true, true, true, true, true, false, false] rfl rfl (by kernel_rfl) (by decide) (fun K hK => ?_)
      refine goes_ Try.func21 (by kernel_rfl) rfl #[(.agg #[.slice P3 Rd.s.length p3, .slice Q3 Rd.p.length q3, .int .i64 Rd.left, .bool Rd.st]), (.agg #[.slice P4 Rd.s.length p4, .slice Q4 Rd.p.length q4, .int .i64 Rd.left, .bool Rd.st])] (by rfl) rfl rfl (by (try simp only [List.map_toArray, List.map_cons, List.map_nil]); first | done | rfl) ?_
      refine (same_says _ _ Rd _ (DiskF.V F76_.out) (DiskF.V F77_.out)).mono ?_
      rintro e w14 ⟨rfl, hb⟩
      refine ⟨_, rfl, ?_⟩
      refine hK.out _ _ (below_step hHeld hb) (fun hHeld => ?_)
      clear hK K
      refine norm_ (a' := ?_) ?_ ?_
      rotate_left
      · show Act.put _ (some 52) _ = _
        simp only [Act.put, List.setIfInBounds_toArray, List.set_cons_zero, List.set_cons_succ, i64_w, i32_w]
        rfl
      have F78_ := Aside0.mk (DiskF.below F69_.out hb)
      have F79_ := Aside0.mk (below_step F70_.out hb)
      have F80_ := Aside0.mk (blk_below F71_.out hb)
      have F81_ := Aside0.mk (DiskF.below F72_.out hb)
      have F82_ := Aside0.mk (blk_below F73_.out hb)
      have F83_ := Aside0.mk (DiskF.below F74_.out hb)
      have F84_ := Aside0.mk (blk_below F75_.out hb)
      have F85_ := Aside0.mk (DiskF.below F76_.out hb)
      have F86_ := Aside0.mk (DiskF.below F77_.out hb)
      clear F69_ F70_ F71_ F72_ F73_ F74_ F75_ F76_ F77_
      clear hb
      refine pure_ (i := 21) (N := some 53) (v := ?_) (a' := ?_) #[true, true, true, true, true, true, true, true, true, true, true, true, true, true, true, true, true, true, true, true, true, true, false] rfl rfl (by kernel_rfl) (fun _ _ _ h => h) (Or.inl ⟨by rfl, ?_⟩) ?_ ?_
      rotate_left
      · intro w'
        go_simp
        with_reducible rfl
      rotate_left
      · simp only [Act.put, List.setIfInBounds_toArray, List.set_cons_zero, List.set_cons_succ, i64_w, i32_w]
        rfl
      refine pure_ (i := 22) (N := some 4) (v := ?_) (a' := ?_) #[true, true, true, true, true, true, true, true, true, true, true, true, true, true, true, true, true, true, true, true, true, true, true] rfl rfl (by kernel_rfl) (fun _ _ _ h => h) (Or.inl ⟨by rfl, ?_⟩) ?_ ?_
      rotate_left
      · intro w'
        go_simp
        with_reducible rfl
      rotate_left
      · simp only [Act.put, List.setIfInBounds_toArray, List.set_cons_zero, List.set_cons_succ, i64_w, i32_w]
        rfl
      refine done_ (by kernel_rfl) ?_
      go_wp2
      go_ret
      exact ⟨rfl, F79_.out⟩
theorem newSpec_says (n : Int) (v : Value) (d : Dk) (w : World) (h : DiskV w v d) : Calls Try.prog 3 #[.int .i64 n, v] w fun e w' => e = .returned (.bool true) ∧ Below w.heap.size w w' := by
  have h2 := h
  obtain ⟨P0, p0, Q0, q0, rfl, -⟩ := h2
  by_cases h1 : 60 < n
  · by_cases h3 : n ≤ 4096
    · exact newSpec_many n P0 p0 Q0 q0 d w h ⟨h1, h3⟩
    · exact newSpec_b n P0 p0 Q0 q0 d w h h1 h3
  · exact newSpec_a n P0 p0 Q0 q0 d w h h1
end Go.Proofs.Ytlnmjgkeiljniaa.Q
/- sizarref45.Sync (begun). -/
namespace Go.Proofs.Ytlnmjgkeiljniaa.Q
open Go.RowKit Go.Proofs.YtlnmjgkeiljniaaW.PrintWords Go.Proofs.YtlnmjgkeiljniaaW.PrintLast Go.Proofs.YtlnmjgkeiljniaaW.PrintMore
set_option linter.unusedVariables false
set_option linter.unusedSimpArgs false
set_option maxHeartbeats 8000000 in
set_option maxRecDepth 100000 in
theorem refsync_bad (v : Value) (d : Dk) (w : World) (h : DiskV w v d) (hbad : ¬ runsD d = true) : Calls Try.prog 31 #[v] w (DEnds w (syncD d)) := by
  have hd := h
  obtain ⟨A0, c0, A1, c1, rfl, h0, h1, hC0, hC1⟩ := h
  have S2 := Aside0.mk (WS.new w #[.slice A0 d.s.length c0, .slice A1 d.p.length c1, .int .i64 d.left, .bool d.st] #[.slice none 0 0, .slice none 0 0, .int .i64 0, .bool false])
  have D2 := Aside0.mk (hd.below S2.out.b)
  have HC0 := Aside0.mk hC0
  have HC1 := Aside0.mk hC1
  have HM1 := Aside0.mk hC1.2.1
  have HL := Aside0.mk (And.intro h0 h1)
  have hu25 := Try.underlying25
  clear hd h0 h1 hC0 hC1
  have HE := Aside0.mk (show syncD d = (zeroD, 450) from by unfold syncD; rw [if_neg hbad])
  have hb2 : checkD d = 450 ∨ (checkD d = 0 ∧ d.st = true) := by
    unfold runsD at hbad
    unfold checkD
    cases hk : okD d with
    | false => exact .inl rfl
    | true => refine .inr ⟨if_pos rfl, ?_⟩; rw [hk] at hbad; simpa using hbad
  clear hbad
  rcases hb2 with hk | ⟨hk, hst⟩
  · have HK := Aside0.mk hk
    clear hk
    go_enter Try.func31, Try.ntmps31
    go_wp2_with (go_at_call 23; (refine (refcheck_says _ d _ D2.out).mono ?_); rintro e w1 ⟨he, hb⟩; rw [HK.out] at he; obtain rfl := he; have S3 := Aside0.mk (S2.out.step hb); have v1z0 := (blk_cell S3.out.v1 0).trans rfl; have v1f0 := blk_frozen S3.out.v1 0; have v2z0 := (blk_cell S3.out.v2 0).trans rfl; have v2f0 := blk_frozen S3.out.v2 0; have v1z1 := (blk_cell S3.out.v1 1).trans rfl; have v1f1 := blk_frozen S3.out.v1 1; have v2z1 := (blk_cell S3.out.v2 1).trans rfl; have v2f1 := blk_frozen S3.out.v2 1; have v1z2 := (blk_cell S3.out.v1 2).trans rfl; have v1f2 := blk_frozen S3.out.v1 2; have v2z2 := (blk_cell S3.out.v2 2).trans rfl; have v2f2 := blk_frozen S3.out.v2 2; have v1z3 := (blk_cell S3.out.v1 3).trans rfl; have v1f3 := blk_frozen S3.out.v1 3; have v2z3 := (blk_cell S3.out.v2 3).trans rfl; have v2f3 := blk_frozen S3.out.v2 3; clear hb)
    have E := (((S3.out.set2 0 (.slice none 0 0)).set2 1 (.slice none 0 0)).set2 2 (.int .i64 0)).set2 3 (.bool false)
    refine bodyPost_ret (results_ct rfl _ _ (w.heap.size + 1) 25 #[.slice none 0 0, .slice none 0 0, .int .i64 0, .bool false] (0, 0) _ rfl E.v2 hu25 rfl info25') rfl ?_
    exact ⟨⟨_, by rw [HE.out]; rfl, by rw [HE.out]; exact diskV_zero _⟩, E.b⟩
  · have HK := Aside0.mk hk
    have HST := Aside0.mk hst
    clear hk hst
    go_enter Try.func31, Try.ntmps31
    go_wp2_with (go_at_call 23; (refine (refcheck_says _ d _ D2.out).mono ?_); rintro e w1 ⟨he, hb⟩; rw [HK.out] at he; obtain rfl := he; have S3 := Aside0.mk (S2.out.step hb); have v1z0 := (blk_cell S3.out.v1 0).trans rfl; have v1f0 := blk_frozen S3.out.v1 0; have v2z0 := (blk_cell S3.out.v2 0).trans rfl; have v2f0 := blk_frozen S3.out.v2 0; have v1z1 := (blk_cell S3.out.v1 1).trans rfl; have v1f1 := blk_frozen S3.out.v1 1; have v2z1 := (blk_cell S3.out.v2 1).trans rfl; have v2f1 := blk_frozen S3.out.v2 1; have v1z2 := (blk_cell S3.out.v1 2).trans rfl; have v1f2 := blk_frozen S3.out.v1 2; have v2z2 := (blk_cell S3.out.v2 2).trans rfl; have v2f2 := blk_frozen S3.out.v2 2; have v1z3 := (blk_cell S3.out.v1 3).trans (show _ = some (Value.bool true) from by rw [← HST.out]; rfl); have v1f3 := blk_frozen S3.out.v1 3; have v2z3 := (blk_cell S3.out.v2 3).trans rfl; have v2f3 := blk_frozen S3.out.v2 3; clear hb)
    have E := (((S3.out.set2 0 (.slice none 0 0)).set2 1 (.slice none 0 0)).set2 2 (.int .i64 0)).set2 3 (.bool false)
    refine bodyPost_ret (results_ct rfl _ _ (w.heap.size + 1) 25 #[.slice none 0 0, .slice none 0 0, .int .i64 0, .bool false] (0, 0) _ rfl E.v2 hu25 rfl info25') rfl ?_
    exact ⟨⟨_, by rw [HE.out]; rfl, by rw [HE.out]; exact diskV_zero _⟩, E.b⟩
end Go.Proofs.Ytlnmjgkeiljniaa.Q
/- sizarref45.Sync: the copy, the loop. -/
namespace Go.Proofs.Ytlnmjgkeiljniaa.Q
open Go.RowKit Go.Proofs.YtlnmjgkeiljniaaW.PrintWords Go.Proofs.YtlnmjgkeiljniaaW.PrintLast Go.Proofs.YtlnmjgkeiljniaaW.PrintMore
set_option linter.unusedVariables false
set_option linter.unusedSimpArgs false
theorem N_store_step {P : Program} {ops : Array Oper} {o : Oper} {a : Act} {Q' : Exit → Act → World → Prop} {K : Act → World → Prop} {α : Type} (d : Kd α) {w0 W : World} (base : Nat) (hw : Region.wanted o (yielded ops a.tmps) = true) (hN : o.dst = none) (t : TypeId) (p x : Operand) (ho : o.op = .store t p x) (e : TypeId) {g n cap o' : Nat} (i : Int) (j : Nat) (xs : List α) (x' : α) (u : Value) (seg c : List Value) (ok okp : Nat → Prop)
    (haddr : a.eval p = .pointer (some ⟨g, o', none⟩)) (hoff : o' = i.toNat * d.sz + j) (hx : a.eval x = u) (hu : u.cells.toList = seg) (ht : (P.info? t).map (·.size) = some seg.length) (h1 : ∀ q ∈ seg, q.oneCell' = true)
    (HO : Kd.N d e W base ok (.slice (some ⟨g, 0, none⟩) n cap) xs) (h0 : 0 ≤ i) (hi : i < n) (hcl : c.length = d.sz) (hcc : ∀ j u, c[j]? = some u → W.cell? ⟨g, i.toNat * d.sz + j, none⟩ = some u)
    (hj : j + seg.length ≤ d.sz) (hM : Kd.FK d W okp x' (c.take j ++ seg ++ c.drop (j + seg.length))) (hokp : ∀ k, okp k → ok k ∧ k ≠ g) (HB : Below base w0 W)
    (h : ∀ w1, Kd.N d e w1 base ok (.slice (some ⟨g, 0, none⟩) n cap) (xs.set i.toNat x') → Below base w0 w1 → W.grownBy w1 (some g) → K a w1) :
    if Region.wanted o (yielded ops a.tmps) = true then Oper.wp P o a W K Q' else K (a.put none undef) W := by
  subst hoff
  have hbg : base ≤ g := Kd.N_base HO g (by simp [Value.ownBlock])
  obtain ⟨hown, rows, hl, hR, hf⟩ := HO
  obtain ⟨hrow, hg⟩ := Kd.R_seg (Kd.raw_any hR) i h0 hi hcl hcc hj (Kd.FK_raw hM) (okp := fun _ => False) (fun _ hk => hk.elim)
  have hB : Below base w0 (W.setCells g (i.toNat * d.sz + j) seg) := HB.trans ⟨hg.os, hg.tape, hg.output, hg.size, fun k hk => by
    have hlt : k < W.heap.size ∨ W.heap.size ≤ k := Nat.lt_or_ge _ _
    rcases hlt with hlt | hge
    · exact hg.block k hlt (fun he => by injection he with he; omega)
    · exact setCells_far seg _ k (by omega)⟩
  have hil : i.toNat < n := by omega
  have hrun : (Instr.storeAt t (.pointer (some ⟨g, i.toNat * d.sz + j, none⟩)) u).run P W = .ok () (W.setCells g (i.toNat * d.sz + j) seg) := by
    obtain ⟨_, inner, hownr, _⟩ := hR
    rcases hownr.2 with ⟨hv, _⟩ | ⟨g', cap', cur, hv, hb, hh, hnc, hcm, hcs, _⟩
    · cases hv
    injection hv with ha _ hc
    injection ha with ha
    injection ha with hg'
    subst hg'; subst hc
    refine run_store_run t u seg hh hu ht ?_ h1
    have h2 : i.toNat * d.sz + d.sz ≤ n * d.sz := by rw [← Nat.succ_mul]; exact Nat.mul_le_mul_right _ hil
    have h3 : n * d.sz ≤ cap * d.sz := Nat.mul_le_mul_right _ (by omega)
    have hcs' : cur.size = cap * d.sz := hcs
    omega
  rw [if_pos hw]
  unfold Oper.wp execOp
  simp only [ho, haddr, hx, Sem.run_bind, Sem.run_pure, Result.andThen_ok, hrun]
  show K (a.put o.dst undef) _
  rw [hN]
  exact h _ (Kd.N_written hown hl hf hrow hg hM hokp) hB hg
set_option maxHeartbeats 8000000 in
set_option maxRecDepth 100000 in
theorem refsync_all (v : Value) (d : Dk) (w : World) (h : DiskV w v d) (hr : runsD d = true) (hl : ¬ (0 ≤ d.left ∧ d.left < d.p.length)) : Calls Try.prog 31 #[v] w (DEnds w (syncD d)) := by
  have hd := h
  obtain ⟨A0, c0, A1, c1, rfl, h0, h1, hC0, hC1⟩ := h
  have S2 := Aside0.mk (WS.new w #[.slice A0 d.s.length c0, .slice A1 d.p.length c1, .int .i64 d.left, .bool d.st] #[.slice none 0 0, .slice none 0 0, .int .i64 0, .bool false])
  have D2 := Aside0.mk (hd.below S2.out.b)
  have HC0 := Aside0.mk hC0
  have HC1 := Aside0.mk hC1
  have HM1 := Aside0.mk hC1.2.1
  have HL := Aside0.mk (And.intro h0 h1)
  have hu25 := Try.underlying25
  clear hd h0 h1 hC0 hC1
  have HOK := Aside0.mk (runs_ok hr)
  have HE := Aside0.mk (show syncD d = (⟨performD d.s d.p, [], if 0 ≤ d.left then d.left - d.p.length else d.left, false⟩, 0) from by unfold syncD; rw [if_pos hr, if_neg hl])
  have HK := Aside0.mk (is_run hr).1
  have HST := Aside0.mk (is_run hr).2.1
  have HLF := Aside0.mk hl
  clear hr hl
  cases q0 : decide (0 ≤ d.left) with
  | false =>
    have HQ := Aside0.mk q0
    go_enter Try.func31, Try.ntmps31
    go_upto_region 7 with (go_at_call 23; (refine (refcheck_says _ d _ D2.out).mono ?_); rintro e w1 ⟨he, hb⟩; rw [HK.out] at he; obtain rfl := he; have S3 := Aside0.mk (S2.out.step hb); have v1z0 := (blk_cell S3.out.v1 0).trans rfl; have v1f0 := blk_frozen S3.out.v1 0; have v2z0 := (blk_cell S3.out.v2 0).trans rfl; have v2f0 := blk_frozen S3.out.v2 0; have v1z1 := (blk_cell S3.out.v1 1).trans rfl; have v1f1 := blk_frozen S3.out.v1 1; have v2z1 := (blk_cell S3.out.v2 1).trans rfl; have v2f1 := blk_frozen S3.out.v2 1; have v1z2 := (blk_cell S3.out.v1 2).trans rfl; have v1f2 := blk_frozen S3.out.v1 2; have v2z2 := (blk_cell S3.out.v2 2).trans rfl; have v2f2 := blk_frozen S3.out.v2 2; have v1z3 := (blk_cell S3.out.v1 3).trans (show _ = some (Value.bool false) from by rw [← HST.out]; rfl); have v1f3 := blk_frozen S3.out.v1 3; have v2z3 := (blk_cell S3.out.v2 3).trans rfl; have v2f3 := blk_frozen S3.out.v2 3; clear hb)
    refine start_ (n := 9) (S := fun w' => WS w w' #[.slice A0 d.s.length c0, .slice A1 d.p.length c1, .int .i64 d.left, .bool d.st] #[.slice none 0 0, .slice none 0 0, .int .i64 0, .bool false]) (ds := [8]) #[false, false, false, false, false, false, false, false, false] (by kernel_rfl) rfl rfl S3.out.drew (fun hHeld => ?_)
    have S4 := Aside0.mk S3.out.drew
    clear v1z0 v1f0 v2z0 v2f0 v1z1 v1f1 v2z1 v2f1 v1z2 v1f2 v2z2 v2f2 v1z3 v1f3 v2z3 v2f3
    clear S2 S3 D2
    generalize w1.drew = w4 at *
    have hlt := S4.out.lt
    replace hlt := Aside0.mk hlt
    refine pure_ (i := 1) (N := some 33) (v := ?_) (a' := ?_) #[false, true, false, false, false, false, false, false, false] rfl rfl (by kernel_rfl) (fun _ _ _ h => h) (Or.inl ⟨by rfl, ?_⟩) ?_ ?_
    rotate_left
    · intro w'
      go_simp
      with_reducible rfl
    rotate_left
    · simp only [Act.put, List.setIfInBounds_toArray, List.set_cons_zero, List.set_cons_succ, i64_w, i32_w]
      rfl
    refine take_ (i := 2) (N := some 34) (v := ?_) (a' := ?_) #[false, true, true, false, false, false, false, false, false] rfl rfl (by kernel_rfl) (fun _ _ _ h => h) (Or.inl ⟨by rfl, ?_⟩) hHeld ?_ ?_
    rotate_left
    · rintro w' s0
      have q0 := (blk_cell s0.v1 0).trans rfl
      go_simp
      with_reducible rfl
    rotate_left
    · simp only [Act.put, List.setIfInBounds_toArray, List.set_cons_zero, List.set_cons_succ, i64_w, i32_w]
      rfl
    refine pure_ (i := 4) (N := some 36) (v := ?_) (a' := ?_) #[false, true, true, false, true, false, false, false, false] rfl rfl (by kernel_rfl) (fun _ _ _ h => h) (Or.inl ⟨by rfl, ?_⟩) ?_ ?_
    rotate_left
    · intro w'
      go_simp
      with_reducible rfl
    rotate_left
    · simp only [Act.put, List.setIfInBounds_toArray, List.set_cons_zero, List.set_cons_succ, i64_w, i32_w]
      rfl
    refine take_ (i := 5) (N := some 37) (v := ?_) (a' := ?_) #[false, true, true, false, true, true, false, false, false] rfl rfl (by kernel_rfl) (fun _ _ _ h => h) (Or.inl ⟨by rfl, ?_⟩) hHeld ?_ ?_
    rotate_left
    · rintro w' s0
      have q0 := (blk_cell s0.v1 2).trans rfl
      go_simp
      with_reducible rfl
    rotate_left
    · simp only [Act.put, List.setIfInBounds_toArray, List.set_cons_zero, List.set_cons_succ, i64_w, i32_w]
      rfl
    refine join_ (σ := Value × (Option Addr × Nat) × Nat) 1 #[true, true, true, true, true, true, true, true, false] (fun s_ => [(32, s_.1), (35, .slice s_.2.1.1 d.s.length s_.2.1.2), (38, .agg #[.slice s_.2.1.1 d.s.length s_.2.1.2, .slice none 0 0, .int .i64 d.left, .bool false]), (6, .pointer (some ⟨s_.2.2, 0, none⟩))]) (fun s_ w' => Below w4.heap.size w4 w' ∧ Kd.N (Kd.slice 5 (Kd.int .u8)) 35 w' w4.heap.size (fun k => apartW w k ∧ k ≠ s_.2.2) (.slice s_.2.1.1 d.s.length s_.2.1.2) d.s ∧ w'.heap[s_.2.2]? = some (.cells #[.slice none 0 0, .slice none 0 0, .int .i64 0, .bool false] 25 (0, 0)) ∧ w4.heap.size ≤ s_.2.2) ?_ ?_
    rotate_left
    · intro hCont
      refine two_ (i := 0) (j := 7) (Ni := some 32) (Nj := some 6) #[true, true, true, false, true, true, false, false, false] #[false, true, true, false, true, true, false, true, false] rfl rfl rfl rfl (by kernel_rfl) (by decide) (by decide) (fun K hK => ?_) (fun K hK => ?_)
      · skip
        refine value_ (w1 := ?_) (v := ?_) (by rfl) rfl ?_ ?_
        rotate_left 2
        · go_simp
          constructor
          · rfl
          · rfl
        refine hK.out _ _ (hHeld.alloc _) (fun hHeld => ?_)
        clear hK K
        refine norm_ (a' := ?_) ?_ ?_
        rotate_left
        · show Act.put _ (some 32) _ = _
          simp only [Act.put, List.setIfInBounds_toArray, List.set_cons_zero, List.set_cons_succ, i64_w, i32_w]
          rfl
        refine two_ (i := 3) (j := 7) (Ni := some 35) (Nj := some 6) #[true, true, true, true, true, true, false, false, false] #[true, true, true, false, true, true, false, true, false] rfl rfl rfl rfl (by kernel_rfl) (by decide) (by decide) (fun K hK => ?_) (fun K hK => ?_)
        · skip
          refine Kd.N_append_rows_step (Kd.slice 5 (Kd.int .u8)) (w0 := w4) w4.heap.size (by rfl) (.tmp 32) (.tmp 34) 22 35 (.slice none 0 0) 24 rfl Try.underlying22 info35 rfl (by decide) (by decide) (.slice (some ⟨w4.heap.size, 0, none⟩) 0 0) [] d.s A0 d.s.length c0 (apartW w) (fun k => k < w.heap.size) rfl rfl (N_empty (Kd.slice 5 (Kd.int .u8)) 35 w4 w4.heap.size (apartW w) (Nat.le_refl _) (.inr hlt.out)) (Kd.F_below (Kd.C_F kSec_heap HC0.out) (below_step S4.out.b (below_alloc (Below.refl w4.heap.size w4) (.cells #[] 35)))) (fun k hk => ⟨.inl hk, by simp [Value.ownBlock]; have := hlt.out; omega⟩) (fun k hk => ?hfr) (below_alloc (Below.refl w4.heap.size w4) (.cells #[] 35)) (by simp; try omega) (by rw [List.length_nil, Nat.zero_add]; have := HOK.out.1; omega) ?_
          case hfr => simp only [World.size_alloc] at hk; have := hlt.out; first | exact ⟨.inr (by omega), by omega⟩ | exact .inr (by omega)
          intro v1 w5 hn hb hg hat
          rw [List.nil_append] at hn
          obtain ⟨Av, cv, rfl⟩ := Kd.N_slice hn
          refine hK.out _ _ (S4.out.step hb) (fun hHeld => ?_)
          clear hK K
          refine norm_ (a' := ?_) ?_ ?_
          rotate_left
          · show Act.put _ (some 35) _ = _
            simp only [Act.put, List.setIfInBounds_toArray, List.set_cons_zero, List.set_cons_succ, i64_w, i32_w]
            rfl
          refine pure_ (i := 6) (N := some 38) (v := ?_) (a' := ?_) #[true, true, true, true, true, true, true, false, false] rfl rfl (by kernel_rfl) (fun _ _ _ h => h) (Or.inl ⟨by rfl, ?_⟩) ?_ ?_
          rotate_left
          · intro w'
            go_simp
            with_reducible rfl
          rotate_left
          · simp only [Act.put, List.setIfInBounds_toArray, List.set_cons_zero, List.set_cons_succ, i64_w, i32_w]
            rfl
          refine one_ (i := 7) (N := some 6) #[true, true, true, true, true, true, true, true, false] rfl rfl (by kernel_rfl) (by decide) (fun K hK => ?_)
          refine value_ (w1 := ?_) (v := ?_) (by rfl) rfl ?_ ?_
          rotate_left 2
          · go_simp
            constructor
            · rfl
            · rfl
          refine hK.out _ _ (hHeld.alloc _) (fun hHeld => ?_)
          clear hK K
          refine norm_ (a' := ?_) ?_ ?_
          rotate_left
          · show Act.put _ (some 6) _ = _
            simp only [Act.put, List.setIfInBounds_toArray, List.set_cons_zero, List.set_cons_succ, i64_w, i32_w]
            rfl
          exact norm_ (by simp only [putAll, Act.put, List.setIfInBounds_toArray, List.set_cons_zero, List.set_cons_succ]) (hCont (.slice (some ⟨w4.heap.size, 0, none⟩) 0 0, (Av, cv), w5.heap.size) _ ⟨below_alloc hb _, Kd.N_alloc (Kd.N_mono (Kd.N_bound hn) (fun k hk => ⟨hk.1, Nat.ne_of_lt hk.2⟩)) _, blk_new w5 (.cells #[.slice none 0 0, .slice none 0 0, .int .i64 0, .bool false] 25), hb.size⟩)
        · skip
          refine value_ (w1 := ?_) (v := ?_) (by rfl) rfl ?_ ?_
          rotate_left 2
          · go_simp
            constructor
            · rfl
            · rfl
          refine hK.out _ _ (hHeld.alloc _) (fun hHeld => ?_)
          clear hK K
          refine norm_ (a' := ?_) ?_ ?_
          rotate_left
          · show Act.put _ (some 6) _ = _
            simp only [Act.put, List.setIfInBounds_toArray, List.set_cons_zero, List.set_cons_succ, i64_w, i32_w]
            rfl
          refine one_ (i := 3) (N := some 35) #[true, true, true, true, true, true, false, true, false] rfl rfl (by kernel_rfl) (by decide) (fun K hK => ?_)
          refine Kd.N_append_rows_step (Kd.slice 5 (Kd.int .u8)) (w0 := w4) w4.heap.size (by rfl) (.tmp 32) (.tmp 34) 22 35 (.slice none 0 0) 24 rfl Try.underlying22 info35 rfl (by decide) (by decide) (.slice (some ⟨w4.heap.size, 0, none⟩) 0 0) [] d.s A0 d.s.length c0 (fun k => apartW w k ∧ k ≠ w4.heap.size + 1) (fun k => k < w.heap.size) rfl rfl (Kd.N_alloc (N_empty (Kd.slice 5 (Kd.int .u8)) 35 w4 w4.heap.size (fun k => apartW w k ∧ k ≠ w4.heap.size + 1) (Nat.le_refl _) ⟨.inr hlt.out, by omega⟩) (.cells #[.slice none 0 0, .slice none 0 0, .int .i64 0, .bool false] 25)) (Kd.F_below (Kd.C_F kSec_heap HC0.out) (below_step S4.out.b (below_alloc (below_alloc (Below.refl w4.heap.size w4) (.cells #[] 35)) (.cells #[.slice none 0 0, .slice none 0 0, .int .i64 0, .bool false] 25)))) (fun k hk => ⟨⟨.inl hk, by have := hlt.out; omega⟩, by simp [Value.ownBlock]; have := hlt.out; omega⟩) (fun k hk => ?hfr) (below_alloc (below_alloc (Below.refl w4.heap.size w4) (.cells #[] 35)) (.cells #[.slice none 0 0, .slice none 0 0, .int .i64 0, .bool false] 25)) (by simp; try omega) (by rw [List.length_nil, Nat.zero_add]; have := HOK.out.1; omega) ?_
          case hfr => simp only [World.size_alloc] at hk; have := hlt.out; first | exact ⟨.inr (by omega), by omega⟩ | exact .inr (by omega)
          intro v1 w5 hn hb hg hat
          rw [List.nil_append] at hn
          obtain ⟨Av, cv, rfl⟩ := Kd.N_slice hn
          refine hK.out _ _ (S4.out.step hb) (fun hHeld => ?_)
          clear hK K
          refine norm_ (a' := ?_) ?_ ?_
          rotate_left
          · show Act.put _ (some 35) _ = _
            simp only [Act.put, List.setIfInBounds_toArray, List.set_cons_zero, List.set_cons_succ, i64_w, i32_w]
            rfl
          refine pure_ (i := 6) (N := some 38) (v := ?_) (a' := ?_) #[true, true, true, true, true, true, true, true, false] rfl rfl (by kernel_rfl) (fun _ _ _ h => h) (Or.inl ⟨by rfl, ?_⟩) ?_ ?_
          rotate_left
          · intro w'
            go_simp
            with_reducible rfl
          rotate_left
          · simp only [Act.put, List.setIfInBounds_toArray, List.set_cons_zero, List.set_cons_succ, i64_w, i32_w]
            rfl
          exact norm_ (by simp only [putAll, Act.put, List.setIfInBounds_toArray, List.set_cons_zero, List.set_cons_succ]) (hCont (.slice (some ⟨w4.heap.size, 0, none⟩) 0 0, (Av, cv), w4.heap.size + 1) _ ⟨hb, hn, (hg.block _ (by simp) (by simp [Value.ownBlock])).trans (by have h_ := blk_new (w4.alloc (.cells #[] 35)) (.cells #[.slice none 0 0, .slice none 0 0, .int .i64 0, .bool false] 25); rw [World.size_alloc] at h_; exact h_), Nat.le_succ _⟩)
      · skip
        refine value_ (w1 := ?_) (v := ?_) (by rfl) rfl ?_ ?_
        rotate_left 2
        · go_simp
          constructor
          · rfl
          · rfl
        refine hK.out _ _ (hHeld.alloc _) (fun hHeld => ?_)
        clear hK K
        refine norm_ (a' := ?_) ?_ ?_
        rotate_left
        · show Act.put _ (some 6) _ = _
          simp only [Act.put, List.setIfInBounds_toArray, List.set_cons_zero, List.set_cons_succ, i64_w, i32_w]
          rfl
        refine one_ (i := 0) (N := some 32) #[true, true, true, false, true, true, false, true, false] rfl rfl (by kernel_rfl) (by decide) (fun K hK => ?_)
        refine value_ (w1 := ?_) (v := ?_) (by rfl) rfl ?_ ?_
        rotate_left 2
        · go_simp
          constructor
          · rfl
          · rfl
        refine hK.out _ _ (hHeld.alloc _) (fun hHeld => ?_)
        clear hK K
        refine norm_ (a' := ?_) ?_ ?_
        rotate_left
        · show Act.put _ (some 32) _ = _
          simp only [Act.put, List.setIfInBounds_toArray, List.set_cons_zero, List.set_cons_succ, i64_w, i32_w]
          rfl
        refine one_ (i := 3) (N := some 35) #[true, true, true, true, true, true, false, true, false] rfl rfl (by kernel_rfl) (by decide) (fun K hK => ?_)
        refine Kd.N_append_rows_step (Kd.slice 5 (Kd.int .u8)) (w0 := w4) w4.heap.size (by rfl) (.tmp 32) (.tmp 34) 22 35 (.slice none 0 0) 24 rfl Try.underlying22 info35 rfl (by decide) (by decide) (.slice (some ⟨w4.heap.size + 1, 0, none⟩) 0 0) [] d.s A0 d.s.length c0 (fun k => apartW w k ∧ k ≠ w4.heap.size) (fun k => k < w.heap.size) rfl rfl (by have h_ := N_empty (Kd.slice 5 (Kd.int .u8)) 35 (w4.alloc (.cells #[.slice none 0 0, .slice none 0 0, .int .i64 0, .bool false] 25)) w4.heap.size (fun k => apartW w k ∧ k ≠ w4.heap.size) (by simp) ⟨.inr (by have := hlt.out; simp; omega), by simp⟩; rw [World.size_alloc] at h_; exact h_) (Kd.F_below (Kd.C_F kSec_heap HC0.out) (below_step S4.out.b (below_alloc (below_alloc (Below.refl w4.heap.size w4) (.cells #[.slice none 0 0, .slice none 0 0, .int .i64 0, .bool false] 25)) (.cells #[] 35)))) (fun k hk => ⟨⟨.inl hk, by have := hlt.out; omega⟩, by simp [Value.ownBlock]; have := hlt.out; omega⟩) (fun k hk => ?hfr) (below_alloc (below_alloc (Below.refl w4.heap.size w4) (.cells #[.slice none 0 0, .slice none 0 0, .int .i64 0, .bool false] 25)) (.cells #[] 35)) (by simp; try omega) (by rw [List.length_nil, Nat.zero_add]; have := HOK.out.1; omega) ?_
        case hfr => simp only [World.size_alloc] at hk; have := hlt.out; first | exact ⟨.inr (by omega), by omega⟩ | exact .inr (by omega)
        intro v1 w5 hn hb hg hat
        rw [List.nil_append] at hn
        obtain ⟨Av, cv, rfl⟩ := Kd.N_slice hn
        refine hK.out _ _ (S4.out.step hb) (fun hHeld => ?_)
        clear hK K
        refine norm_ (a' := ?_) ?_ ?_
        rotate_left
        · show Act.put _ (some 35) _ = _
          simp only [Act.put, List.setIfInBounds_toArray, List.set_cons_zero, List.set_cons_succ, i64_w, i32_w]
          rfl
        refine pure_ (i := 6) (N := some 38) (v := ?_) (a' := ?_) #[true, true, true, true, true, true, true, true, false] rfl rfl (by kernel_rfl) (fun _ _ _ h => h) (Or.inl ⟨by rfl, ?_⟩) ?_ ?_
        rotate_left
        · intro w'
          go_simp
          with_reducible rfl
        rotate_left
        · simp only [Act.put, List.setIfInBounds_toArray, List.set_cons_zero, List.set_cons_succ, i64_w, i32_w]
          rfl
        exact norm_ (by simp only [putAll, Act.put, List.setIfInBounds_toArray, List.set_cons_zero, List.set_cons_succ]) (hCont (.slice (some ⟨w4.heap.size + 1, 0, none⟩) 0 0, (Av, cv), w4.heap.size) _ ⟨hb, hn, (hg.block _ (by simp; omega) (by simp [Value.ownBlock])).trans (blk_alloc (blk_new w4 (.cells #[.slice none 0 0, .slice none 0 0, .int .i64 0, .bool false] 25)) (.cells #[] 35)), Nat.le_refl _⟩)
    rintro ⟨v32, ⟨As, cs⟩, b6⟩ w5 ⟨hb, hn, hbx, hle⟩
    dsimp only at hb hn hbx hle
    refine norm_ (a' := ?_) ?_ ?_
    rotate_left
    · simp only [putAll, Act.put, List.setIfInBounds_toArray, List.set_cons_zero, List.set_cons_succ]
      rfl
    have S5 := Aside0.mk (S4.out.step hb)
    have N5 := Aside0.mk (Kd.N_lower hn (base' := w.heap.size) S4.out.b.size)
    have X5 := Aside0.mk hbx
    have HB6 := Aside0.mk (show w.heap.size + 1 < b6 from Nat.lt_of_lt_of_le hlt.out hle)
    clear hb hn hbx hle S4 hHeld hlt
    have bz0 := (blk_cell X5.out 0).trans rfl; have bf0 := blk_frozen X5.out 0
    have bz1 := (blk_cell X5.out 1).trans rfl; have bf1 := blk_frozen X5.out 1
    have bz2 := (blk_cell X5.out 2).trans rfl; have bf2 := blk_frozen X5.out 2
    have bz3 := (blk_cell X5.out 3).trans rfl; have bf3 := blk_frozen X5.out 3
    refine last_ (i := 8) (N := none) #[true, true, true, true, true, true, true, true, true] rfl rfl (by kernel_rfl) (by decide) (fun K hK => ?_)
    refine skip_ (w1 := ?_) (by rfl) rfl ?_ ?_
    rotate_left
    · go_simp
      rfl
    refine hK.out _ _ ?_
    clear hK K
    refine done_ (by kernel_rfl) ?_
    clear bz0 bz1 bz2 bz3 bf0 bf1 bf2 bf3
    have S6 := Aside0.mk (show WS w ((((w5.setCell ⟨b6, 0, none⟩ (.slice As d.s.length cs)).setCell ⟨b6, 1, none⟩ (.slice none 0 0)).setCell ⟨b6, 2, none⟩ (.int .i64 d.left)).setCell ⟨b6, 3, none⟩ (.bool false)) #[.slice A0 d.s.length c0, .slice A1 d.p.length c1, .int .i64 d.left, .bool d.st] #[.slice none 0 0, .slice none 0 0, .int .i64 0, .bool false] from S5.out.stepB (Below.setCell (p := ⟨b6, 3, none⟩) (Below.setCell (p := ⟨b6, 2, none⟩) (Below.setCell (p := ⟨b6, 1, none⟩) (Below.setCell (p := ⟨b6, 0, none⟩) (Below.refl b6 w5) (Nat.le_refl _) (.slice As d.s.length cs)) (Nat.le_refl _) (.slice none 0 0)) (Nat.le_refl _) (.int .i64 d.left)) (Nat.le_refl _) (.bool false)) HB6.out)
    have N6 := Aside0.mk (show Kd.N (Kd.slice 5 (Kd.int .u8)) 35 ((((w5.setCell ⟨b6, 0, none⟩ (.slice As d.s.length cs)).setCell ⟨b6, 1, none⟩ (.slice none 0 0)).setCell ⟨b6, 2, none⟩ (.int .i64 d.left)).setCell ⟨b6, 3, none⟩ (.bool false)) w.heap.size (fun k => apartW w k ∧ k ≠ b6) (.slice As d.s.length cs) d.s from (Kd.N_far (p := ⟨b6, 3, none⟩) (Kd.N_far (p := ⟨b6, 2, none⟩) (Kd.N_far (p := ⟨b6, 1, none⟩) (Kd.N_far (p := ⟨b6, 0, none⟩) N5.out (fun k hk => hk.2) (.slice As d.s.length cs)) (fun k hk => hk.2) (.slice none 0 0)) (fun k hk => hk.2) (.int .i64 d.left)) (fun k hk => hk.2) (.bool false)))
    have X6 := Aside0.mk (show ((((w5.setCell ⟨b6, 0, none⟩ (.slice As d.s.length cs)).setCell ⟨b6, 1, none⟩ (.slice none 0 0)).setCell ⟨b6, 2, none⟩ (.int .i64 d.left)).setCell ⟨b6, 3, none⟩ (.bool false)).heap[b6]? = some (.cells #[.slice As d.s.length cs, .slice none 0 0, .int .i64 d.left, .bool false] 25 (0, 0)) from (blk_set (blk_set (blk_set (blk_set X5.out 0 (.slice As d.s.length cs)) 1 (.slice none 0 0)) 2 (.int .i64 d.left)) 3 (.bool false)))
    clear S5 N5 X5
    generalize ((((w5.setCell ⟨b6, 0, none⟩ (.slice As d.s.length cs)).setCell ⟨b6, 1, none⟩ (.slice none 0 0)).setCell ⟨b6, 2, none⟩ (.int .i64 d.left)).setCell ⟨b6, 3, none⟩ (.bool false)) = w6 at *
    obtain ⟨g, cap, he, hge, hgl, -⟩ := Kd.N_form N6.out (by have := HOK.out.2.2.2.2.1; omega)
    injection he with hea hel hec
    subst hea
    subst hec
    clear hel
    have HGE := Aside0.mk hge
    have HGX := Aside0.mk (show apartW w g ∧ g ≠ b6 from N6.out.1 g (by simp [Value.ownBlock]))
    clear hge hgl
    have H1 := Aside0.mk (Kd.C_F k76_heap HC1.out)
    go_wp2
    go_loopg [7] d.p.length (fun kq v7 w' => ∃ i : Nat, v7 = .int .i64 i ∧ Aside0 (i ≤ d.p.length ∧ kq + i = d.p.length) ∧ Aside0 (Kd.N (Kd.slice 5 (Kd.int .u8)) 35 w' w.heap.size (fun k => apartW w k ∧ k ≠ b6) (.slice (some ⟨g, 0, none⟩) d.s.length cs) (performD d.s (d.p.take i))) ∧ Aside0 (WS w w' #[.slice A0 d.s.length c0, .slice A1 d.p.length c1, .int .i64 d.left, .bool d.st] #[.slice none 0 0, .slice none 0 0, .int .i64 0, .bool false] ∧ w'.heap[b6]? = some (.cells #[.slice (some ⟨g, 0, none⟩) d.s.length cs, .slice none 0 0, .int .i64 d.left, .bool false] 25 (0, 0))))
    case atStart => exact ⟨0, rfl, ⟨by omega⟩, N6, ⟨S6.out, X6.out⟩⟩
    clear S6 N6 X6
    obtain ⟨i, rfl, HI, HN, HW⟩ := hrel
    by_cases hi : i < d.p.length
    · skip
      have hi0 : decide (i < d.p.length) = true := decide_eq_true hi
      have hip : i < d.p.length := Nat.lt_of_lt_of_le hi (Nat.le_refl _)
      have hi1 : decide (i < d.p.length) = true := decide_eq_true hip
      have hw := Aside0.mk (show wrap64 ((i : Int) + 1) = ((i + 1 : Nat) : Int) by have := HM1.out; unfold wrap64; omega)
      obtain ⟨ad, cx, rfl, hcl, hfk, hcc, hokb⟩ := Kd.F_get (Kd.F_below H1.out HW.out.1.b) z76 (i : Int) (by omega) (by omega)
      have hgx : d.p.getD ((i : Int)).toNat z76 = d.p[i] := by rw [show ((i : Int)).toNat = i by omega]; simp [List.getD_eq_getElem?_getD, List.getElem?_eq_getElem hip]
      rw [hgx] at hfk
      have hvx := HOK.out.2.2.2.2.2.1 _ (List.getElem_mem hip)
      have htk := Aside0.mk (take_snoc76 d.p i hip)
      generalize d.p[i] = x at *
      obtain ⟨Ax, ccx, rfl, hlx, hFx⟩ := k76_openF hfk
      have hx0 : wr.cell? (ad.add (i * 2)) = some (.int .i64 x.f0) := by have h_ := hcc 0 _ rfl; rw [show ((i : Int)).toNat = i by omega] at h_; exact h_
      have hx1 : wr.cell? ⟨(ad.add (i * 2)).block, (ad.add (i * 2)).off + 1, none⟩ = some (.slice Ax x.f1.length ccx) := by
        have h_ := hcc 1 _ rfl
        rw [show ((i : Int)).toNat = i by omega] at h_
        rw [← add_field _ _ 1 (by omega)]
        exact h_
      have HFX := Aside0.mk (fk_sec hlx hFx)
      have HX0 := Aside0.mk hx0
      have HX1 := Aside0.mk hx1
      have HVX := Aside0.mk hvx
      have hx00 := hvx.1
      have hx01 : x.f0 < (d.s.length : Int) := hvx.2.1
      clear hgx hcl hcc hfk hokb hlx hFx hvx hx0 hx1
      go_upto_region 11 with (fail)
      have HW4 := Aside0.mk HW.out.1.drew
      have HX4 := Aside0.mk (blk_drew HW.out.2)
      have HN4 := Aside0.mk (Kd.N_drew HN.out)
      have HF4 := Aside0.mk (Kd.FK_below HFX.out (below_drew1 (Below.refl wr.heap.size wr)))
      have EX0 := Aside0.mk (show wr.drew.cell? (ad.add (i * 2)) = some (.int .i64 x.f0) from HX0.out)
      have EX1 := Aside0.mk (show wr.drew.cell? ⟨(ad.add (i * 2)).block, (ad.add (i * 2)).off + 1, none⟩ = some (.slice Ax x.f1.length ccx) from HX1.out)
      refine start_ (n := 16) (S := fun w' => w'.cell? ⟨b6, 0, none⟩ = some (.slice (some ⟨g, 0, none⟩) d.s.length cs) ∧ w'.cell? ⟨w.heap.size, 1, none⟩ = some (.slice (some ad) d.p.length c1) ∧ w'.cell? (ad.add (i * 2)) = some (.int .i64 x.f0) ∧ w'.cell? ⟨(ad.add (i * 2)).block, (ad.add (i * 2)).off + 1, none⟩ = some (.slice Ax x.f1.length ccx)) (ds := [15]) #[false, false, false, false, false, false, false, false, false, false, false, false, false, false, false, false] (by kernel_rfl) rfl rfl ⟨(blk_cell HX4.out 0).trans rfl, (blk_cell HW4.out.v1 1).trans rfl, EX0.out, EX1.out⟩ (fun hHeld => ?_)
      generalize wr.drew = w4 at *
      refine pure_ (i := 0) (N := some 44) (v := ?_) (a' := ?_) #[true, false, false, false, false, false, false, false, false, false, false, false, false, false, false, false] rfl rfl (by kernel_rfl) (fun _ _ _ h => h) (Or.inl ⟨by rfl, ?_⟩) ?_ ?_
      rotate_left
      · intro w'
        go_simp
        with_reducible rfl
      rotate_left
      · simp only [Act.put, List.setIfInBounds_toArray, List.set_cons_zero, List.set_cons_succ, i64_w, i32_w]
        rfl
      refine take_ (i := 1) (N := some 45) (v := ?_) (a' := ?_) #[true, true, false, false, false, false, false, false, false, false, false, false, false, false, false, false] rfl rfl (by kernel_rfl) (fun _ _ _ h => h) (Or.inl ⟨by rfl, ?_⟩) hHeld ?_ ?_
      rotate_left
      · rintro w' ⟨s0, s1, s2, s3⟩
        go_simp
        with_reducible rfl
      rotate_left
      · simp only [Act.put, List.setIfInBounds_toArray, List.set_cons_zero, List.set_cons_succ, i64_w, i32_w]
        rfl
      refine pure_ (i := 2) (N := some 46) (v := ?_) (a' := ?_) #[true, true, true, false, false, false, false, false, false, false, false, false, false, false, false, false] rfl rfl (by kernel_rfl) (fun _ _ _ h => h) (Or.inl ⟨by rfl, ?_⟩) ?_ ?_
      rotate_left
      · intro w'
        go_simp
        with_reducible rfl
      rotate_left
      · simp only [Act.put, List.setIfInBounds_toArray, List.set_cons_zero, List.set_cons_succ, i64_w, i32_w]
        rfl
      refine take_ (i := 3) (N := some 47) (v := ?_) (a' := ?_) #[true, true, true, true, false, false, false, false, false, false, false, false, false, false, false, false] rfl rfl (by kernel_rfl) (fun _ _ _ h => h) (Or.inl ⟨by rfl, ?_⟩) hHeld ?_ ?_
      rotate_left
      · rintro w' ⟨s0, s1, s2, s3⟩
        go_simp
        with_reducible rfl
      rotate_left
      · simp only [Act.put, List.setIfInBounds_toArray, List.set_cons_zero, List.set_cons_succ, i64_w, i32_w]
        rfl
      refine pure_ (i := 4) (N := some 48) (v := ?_) (a' := ?_) #[true, true, true, true, true, false, false, false, false, false, false, false, false, false, false, false] rfl rfl (by kernel_rfl) (fun _ _ _ h => h) (Or.inl ⟨by rfl, ?_⟩) ?_ ?_
      rotate_left
      · intro w'
        go_simp
        with_reducible rfl
      rotate_left
      · simp only [Act.put, List.setIfInBounds_toArray, List.set_cons_zero, List.set_cons_succ, i64_w, i32_w]
        rfl
      refine pure_ (i := 5) (N := some 49) (v := ?_) (a' := ?_) #[true, true, true, true, true, true, false, false, false, false, false, false, false, false, false, false] rfl rfl (by kernel_rfl) (fun _ _ _ h => h) (Or.inl ⟨by rfl, ?_⟩) ?_ ?_
      rotate_left
      · intro w'
        go_simp
        with_reducible rfl
      rotate_left
      · simp only [Act.put, List.setIfInBounds_toArray, List.set_cons_zero, List.set_cons_succ, i64_w, i32_w]
        rfl
      refine pure_ (i := 6) (N := some 50) (v := ?_) (a' := ?_) #[true, true, true, true, true, true, true, false, false, false, false, false, false, false, false, false] rfl rfl (by kernel_rfl) (fun _ _ _ h => h) (Or.inl ⟨by rfl, ?_⟩) ?_ ?_
      rotate_left
      · intro w'
        go_simp
        with_reducible rfl
      rotate_left
      · simp only [Act.put, List.setIfInBounds_toArray, List.set_cons_zero, List.set_cons_succ, i64_w, i32_w]
        rfl
      refine take_ (i := 7) (N := some 51) (v := ?_) (a' := ?_) #[true, true, true, true, true, true, true, true, false, false, false, false, false, false, false, false] rfl rfl (by kernel_rfl) (fun _ _ _ h => h) (Or.inl ⟨by rfl, ?_⟩) hHeld ?_ ?_
      rotate_left
      · rintro w' ⟨s0, s1, s2, s3⟩
        go_simp
        with_reducible rfl
      rotate_left
      · simp only [Act.put, List.setIfInBounds_toArray, List.set_cons_zero, List.set_cons_succ, i64_w, i32_w]
        rfl
      refine pure_ (i := 8) (N := some 52) (v := ?_) (a' := ?_) #[true, true, true, true, true, true, true, true, true, false, false, false, false, false, false, false] rfl rfl (by kernel_rfl) (fun _ _ _ h => h) (Or.inl ⟨by rfl, ?_⟩) ?_ ?_
      rotate_left
      · intro w'
        go_simp
        with_reducible rfl
      rotate_left
      · simp only [Act.put, List.setIfInBounds_toArray, List.set_cons_zero, List.set_cons_succ, i64_w, i32_w]
        rfl
      refine take_ (i := 9) (N := some 53) (v := ?_) (a' := ?_) #[true, true, true, true, true, true, true, true, true, true, false, false, false, false, false, false] rfl rfl (by kernel_rfl) (fun _ _ _ h => h) (Or.inl ⟨by rfl, ?_⟩) hHeld ?_ ?_
      rotate_left
      · rintro w' ⟨s0, s1, s2, s3⟩
        go_simp
        with_reducible rfl
      rotate_left
      · simp only [Act.put, List.setIfInBounds_toArray, List.set_cons_zero, List.set_cons_succ, i64_w, i32_w]
        rfl
      refine pure_ (i := 10) (N := some 54) (v := ?_) (a' := ?_) #[true, true, true, true, true, true, true, true, true, true, true, false, false, false, false, false] rfl rfl (by kernel_rfl) (fun _ _ _ h => h) (Or.inl ⟨by rfl, ?_⟩) ?_ ?_
      rotate_left
      · intro w'
        go_simp
        with_reducible rfl
      rotate_left
      · simp only [Act.put, List.setIfInBounds_toArray, List.set_cons_zero, List.set_cons_succ, i64_w, i32_w]
        rfl
      refine pure_ (i := 11) (N := some 55) (v := ?_) (a' := ?_) #[true, true, true, true, true, true, true, true, true, true, true, true, false, false, false, false] rfl rfl (by kernel_rfl) (fun _ _ _ h => h) (Or.inl ⟨by rfl, ?_⟩) ?_ ?_
      rotate_left
      · intro w'
        go_simp
        with_reducible rfl
      rotate_left
      · simp only [Act.put, List.setIfInBounds_toArray, List.set_cons_zero, List.set_cons_succ, i64_w, i32_w]
        rfl
      refine pure_ (i := 12) (N := some 56) (v := ?_) (a' := ?_) #[true, true, true, true, true, true, true, true, true, true, true, true, true, false, false, false] rfl rfl (by kernel_rfl) (fun _ _ _ h => h) (Or.inl ⟨by rfl, ?_⟩) ?_ ?_
      rotate_left
      · intro w'
        go_simp
        with_reducible rfl
      rotate_left
      · simp only [Act.put, List.setIfInBounds_toArray, List.set_cons_zero, List.set_cons_succ, i64_w, i32_w]
        rfl
      refine take_ (i := 13) (N := some 57) (v := ?_) (a' := ?_) #[true, true, true, true, true, true, true, true, true, true, true, true, true, true, false, false] rfl rfl (by kernel_rfl) (fun _ _ _ h => h) (Or.inl ⟨by rfl, ?_⟩) hHeld ?_ ?_
      rotate_left
      · rintro w' ⟨s0, s1, s2, s3⟩
        go_simp
        with_reducible rfl
      rotate_left
      · simp only [Act.put, List.setIfInBounds_toArray, List.set_cons_zero, List.set_cons_succ, i64_w, i32_w]
        rfl
      refine pure_ (i := 14) (N := some 58) (v := ?_) (a' := ?_) #[true, true, true, true, true, true, true, true, true, true, true, true, true, true, true, false] rfl rfl (by kernel_rfl) (fun _ _ _ h => h) (Or.inl ⟨by rfl, ?_⟩) ?_ ?_
      rotate_left
      · intro w'
        go_simp
        with_reducible rfl
      rotate_left
      · simp only [Act.put, List.setIfInBounds_toArray, List.set_cons_zero, List.set_cons_succ, i64_w, i32_w]
        rfl
      refine last_ (i := 15) (N := none) #[true, true, true, true, true, true, true, true, true, true, true, true, true, true, true, true] rfl rfl (by kernel_rfl) (by decide) (fun K hK => ?_)
      obtain ⟨cq, hcl, -, hcc, hfr⟩ := Kd.N_elem HN4.out ([] : List Int) x.f0 HVX.out.1 HVX.out.2.1
      obtain ⟨q, rfl⟩ : ∃ q, cq = [q] := List.length_eq_one_iff.1 hcl
      refine N_store_step (Kd.slice 5 (Kd.int .u8)) (w0 := w) w.heap.size (by rfl) rfl 35 (.tmp 58) (.tmp 57) rfl 35 x.f0 0 (performD d.s (d.p.take i)) x.f1 (.slice Ax x.f1.length ccx) [.slice Ax x.f1.length ccx] [q] (fun k => apartW w k ∧ k ≠ b6) (fun k => k < w.heap.size) rfl ?ho rfl rfl (by kernel_rfl) (by intro q hq; rw [List.mem_singleton.1 hq]; rfl) HN4.out HVX.out.1 HVX.out.2.1 rfl hcc (Nat.le_refl 1) HF4.out (fun k hk => ⟨⟨.inl hk, by have := HB6.out; omega⟩, by have := HGE.out; omega⟩) HW4.out.b ?_
      case ho => exact (Nat.mul_one _).symm
      intro w7 hn7 hb7 hg7
      have N7 := Aside0.mk hn7
      have S7 := Aside0.mk (show WS w w7 #[.slice A0 d.s.length c0, .slice (some ad) d.p.length c1, .int .i64 d.left, .bool d.st] #[.slice none 0 0, .slice none 0 0, .int .i64 0, .bool false] from ⟨hb7, (hg7.block _ (by have := HW4.out.lt; omega) (fun e => apartW.ne1 g HGX.out.1 (Option.some.inj e).symm)).trans HW4.out.v1, (hg7.block _ HW4.out.lt (fun e => apartW.ne2 g HGX.out.1 (Option.some.inj e).symm)).trans HW4.out.v2⟩)
      have X7 := Aside0.mk ((hg7.block _ (blk_lt HX4.out) (fun e => HGX.out.2 (Option.some.inj e).symm)).trans HX4.out)
      clear hn7 hb7 hg7 hcl hcc hfr
      refine hK.out _ _ ?_
      clear hK K
      refine done_ (by kernel_rfl) ?_
      go_wp2
      go_roundg (gk - 1)
      case measure => have := HI.out; omega
      case rel => exact ⟨i + 1, by rw [hw.out], ⟨by have := HI.out; omega⟩, ⟨by rw [htk.out, performD_snoc]; exact N7.out⟩, ⟨S7.out, X7.out⟩⟩
    · skip
      have hi0 : decide (i < d.p.length) = false := decide_eq_false hi
      have hie : i = d.p.length := by have := HI.out; omega
      subst hie
      have S7 := Aside0.mk HW.out.1
      have X7 := Aside0.mk HW.out.2
      have N7 := Aside0.mk (show Kd.N (Kd.slice 5 (Kd.int .u8)) 35 wr w.heap.size (fun k => apartW w k ∧ k ≠ b6) (.slice (some ⟨g, 0, none⟩) d.s.length cs) (performD d.s d.p) from by have h_ := HN.out; rwa [List.take_length] at h_)
      have v1z0 := (blk_cell S7.out.v1 0).trans rfl; have v1f0 := blk_frozen S7.out.v1 0; have v2z0 := (blk_cell S7.out.v2 0).trans rfl; have v2f0 := blk_frozen S7.out.v2 0; have v1z1 := (blk_cell S7.out.v1 1).trans rfl; have v1f1 := blk_frozen S7.out.v1 1; have v2z1 := (blk_cell S7.out.v2 1).trans rfl; have v2f1 := blk_frozen S7.out.v2 1; have v1z2 := (blk_cell S7.out.v1 2).trans rfl; have v1f2 := blk_frozen S7.out.v1 2; have v2z2 := (blk_cell S7.out.v2 2).trans rfl; have v2f2 := blk_frozen S7.out.v2 2; have v1z3 := (blk_cell S7.out.v1 3).trans rfl; have v1f3 := blk_frozen S7.out.v1 3; have v2z3 := (blk_cell S7.out.v2 3).trans rfl; have v2f3 := blk_frozen S7.out.v2 3
      have bz0 := (blk_cell X7.out 0).trans rfl; have bf0 := blk_frozen X7.out 0; have bz1 := (blk_cell X7.out 1).trans rfl; have bf1 := blk_frozen X7.out 1; have bz2 := (blk_cell X7.out 2).trans rfl; have bf2 := blk_frozen X7.out 2; have bz3 := (blk_cell X7.out 3).trans rfl; have bf3 := blk_frozen X7.out 3
      go_wp2
      have S8 := S7.out
      have N8 := N7.out
      have E := ((((S8.set2 0 (.slice (some ⟨g, 0, none⟩) d.s.length cs)).set2 1 (.slice none 0 0)).set2 2 (.int .i64 d.left)).set2 3 (.bool false))
      have N9 := (Kd.N_far (p := ⟨w.heap.size + 1, 3, none⟩) (Kd.N_far (p := ⟨w.heap.size + 1, 2, none⟩) (Kd.N_far (p := ⟨w.heap.size + 1, 1, none⟩) (Kd.N_far (p := ⟨w.heap.size + 1, 0, none⟩) N8 (fun k hk => apartW.ne2 k hk.1) (.slice (some ⟨g, 0, none⟩) d.s.length cs)) (fun k hk => apartW.ne2 k hk.1) (.slice none 0 0)) (fun k hk => apartW.ne2 k hk.1) (.int .i64 d.left)) (fun k hk => apartW.ne2 k hk.1) (.bool false))
      refine bodyPost_ret (results_ct rfl _ _ (w.heap.size + 1) 25 #[.slice (some ⟨g, 0, none⟩) d.s.length cs, .slice none 0 0, .int .i64 d.left, .bool false] (0, 0) _ rfl E.v2 hu25 rfl info25') rfl ?_
      refine ⟨⟨_, by rw [HE.out]; rfl, ?_⟩, E.b⟩
      rw [HE.out]
      have hlen := performD_len d.s d.p
      have hif : (if 0 ≤ d.left then d.left - d.p.length else d.left) = d.left := if_neg (of_decide_eq_false HQ.out)
      rw [hif]
      exact ⟨some ⟨g, 0, none⟩, cs, none, 0, by rw [hlen]; rfl, by rw [hlen]; have h_ := Kd.N_reads' N9; rw [hlen] at h_; exact h_.2.1, Nat.le_refl _, (by have h_ := (Kd.N_reads' N9).2.2; exact h_), Kd.C_nil _ _⟩
  | true =>
    have HQ := Aside0.mk q0
    have q1 : decide (d.left < (d.p.length : Int)) = false := decide_eq_false (by have := of_decide_eq_true q0; have := HLF.out; omega)
    go_enter Try.func31, Try.ntmps31
    go_upto_region 7 with (go_at_call 23; (refine (refcheck_says _ d _ D2.out).mono ?_); rintro e w1 ⟨he, hb⟩; rw [HK.out] at he; obtain rfl := he; have S3 := Aside0.mk (S2.out.step hb); have v1z0 := (blk_cell S3.out.v1 0).trans rfl; have v1f0 := blk_frozen S3.out.v1 0; have v2z0 := (blk_cell S3.out.v2 0).trans rfl; have v2f0 := blk_frozen S3.out.v2 0; have v1z1 := (blk_cell S3.out.v1 1).trans rfl; have v1f1 := blk_frozen S3.out.v1 1; have v2z1 := (blk_cell S3.out.v2 1).trans rfl; have v2f1 := blk_frozen S3.out.v2 1; have v1z2 := (blk_cell S3.out.v1 2).trans rfl; have v1f2 := blk_frozen S3.out.v1 2; have v2z2 := (blk_cell S3.out.v2 2).trans rfl; have v2f2 := blk_frozen S3.out.v2 2; have v1z3 := (blk_cell S3.out.v1 3).trans (show _ = some (Value.bool false) from by rw [← HST.out]; rfl); have v1f3 := blk_frozen S3.out.v1 3; have v2z3 := (blk_cell S3.out.v2 3).trans rfl; have v2f3 := blk_frozen S3.out.v2 3; clear hb)
    refine start_ (n := 9) (S := fun w' => WS w w' #[.slice A0 d.s.length c0, .slice A1 d.p.length c1, .int .i64 d.left, .bool d.st] #[.slice none 0 0, .slice none 0 0, .int .i64 0, .bool false]) (ds := [8]) #[false, false, false, false, false, false, false, false, false] (by kernel_rfl) rfl rfl S3.out.drew (fun hHeld => ?_)
    have S4 := Aside0.mk S3.out.drew
    clear v1z0 v1f0 v2z0 v2f0 v1z1 v1f1 v2z1 v2f1 v1z2 v1f2 v2z2 v2f2 v1z3 v1f3 v2z3 v2f3
    clear S2 S3 D2
    generalize w1.drew = w4 at *
    have hlt := S4.out.lt
    replace hlt := Aside0.mk hlt
    refine pure_ (i := 1) (N := some 33) (v := ?_) (a' := ?_) #[false, true, false, false, false, false, false, false, false] rfl rfl (by kernel_rfl) (fun _ _ _ h => h) (Or.inl ⟨by rfl, ?_⟩) ?_ ?_
    rotate_left
    · intro w'
      go_simp
      with_reducible rfl
    rotate_left
    · simp only [Act.put, List.setIfInBounds_toArray, List.set_cons_zero, List.set_cons_succ, i64_w, i32_w]
      rfl
    refine take_ (i := 2) (N := some 34) (v := ?_) (a' := ?_) #[false, true, true, false, false, false, false, false, false] rfl rfl (by kernel_rfl) (fun _ _ _ h => h) (Or.inl ⟨by rfl, ?_⟩) hHeld ?_ ?_
    rotate_left
    · rintro w' s0
      have q0 := (blk_cell s0.v1 0).trans rfl
      go_simp
      with_reducible rfl
    rotate_left
    · simp only [Act.put, List.setIfInBounds_toArray, List.set_cons_zero, List.set_cons_succ, i64_w, i32_w]
      rfl
    refine pure_ (i := 4) (N := some 36) (v := ?_) (a' := ?_) #[false, true, true, false, true, false, false, false, false] rfl rfl (by kernel_rfl) (fun _ _ _ h => h) (Or.inl ⟨by rfl, ?_⟩) ?_ ?_
    rotate_left
    · intro w'
      go_simp
      with_reducible rfl
    rotate_left
    · simp only [Act.put, List.setIfInBounds_toArray, List.set_cons_zero, List.set_cons_succ, i64_w, i32_w]
      rfl
    refine take_ (i := 5) (N := some 37) (v := ?_) (a' := ?_) #[false, true, true, false, true, true, false, false, false] rfl rfl (by kernel_rfl) (fun _ _ _ h => h) (Or.inl ⟨by rfl, ?_⟩) hHeld ?_ ?_
    rotate_left
    · rintro w' s0
      have q0 := (blk_cell s0.v1 2).trans rfl
      go_simp
      with_reducible rfl
    rotate_left
    · simp only [Act.put, List.setIfInBounds_toArray, List.set_cons_zero, List.set_cons_succ, i64_w, i32_w]
      rfl
    refine join_ (σ := Value × (Option Addr × Nat) × Nat) 1 #[true, true, true, true, true, true, true, true, false] (fun s_ => [(32, s_.1), (35, .slice s_.2.1.1 d.s.length s_.2.1.2), (38, .agg #[.slice s_.2.1.1 d.s.length s_.2.1.2, .slice none 0 0, .int .i64 d.left, .bool false]), (6, .pointer (some ⟨s_.2.2, 0, none⟩))]) (fun s_ w' => Below w4.heap.size w4 w' ∧ Kd.N (Kd.slice 5 (Kd.int .u8)) 35 w' w4.heap.size (fun k => apartW w k ∧ k ≠ s_.2.2) (.slice s_.2.1.1 d.s.length s_.2.1.2) d.s ∧ w'.heap[s_.2.2]? = some (.cells #[.slice none 0 0, .slice none 0 0, .int .i64 0, .bool false] 25 (0, 0)) ∧ w4.heap.size ≤ s_.2.2) ?_ ?_
    rotate_left
    · intro hCont
      refine two_ (i := 0) (j := 7) (Ni := some 32) (Nj := some 6) #[true, true, true, false, true, true, false, false, false] #[false, true, true, false, true, true, false, true, false] rfl rfl rfl rfl (by kernel_rfl) (by decide) (by decide) (fun K hK => ?_) (fun K hK => ?_)
      · skip
        refine value_ (w1 := ?_) (v := ?_) (by rfl) rfl ?_ ?_
        rotate_left 2
        · go_simp
          constructor
          · rfl
          · rfl
        refine hK.out _ _ (hHeld.alloc _) (fun hHeld => ?_)
        clear hK K
        refine norm_ (a' := ?_) ?_ ?_
        rotate_left
        · show Act.put _ (some 32) _ = _
          simp only [Act.put, List.setIfInBounds_toArray, List.set_cons_zero, List.set_cons_succ, i64_w, i32_w]
          rfl
        refine two_ (i := 3) (j := 7) (Ni := some 35) (Nj := some 6) #[true, true, true, true, true, true, false, false, false] #[true, true, true, false, true, true, false, true, false] rfl rfl rfl rfl (by kernel_rfl) (by decide) (by decide) (fun K hK => ?_) (fun K hK => ?_)
        · skip
          refine Kd.N_append_rows_step (Kd.slice 5 (Kd.int .u8)) (w0 := w4) w4.heap.size (by rfl) (.tmp 32) (.tmp 34) 22 35 (.slice none 0 0) 24 rfl Try.underlying22 info35 rfl (by decide) (by decide) (.slice (some ⟨w4.heap.size, 0, none⟩) 0 0) [] d.s A0 d.s.length c0 (apartW w) (fun k => k < w.heap.size) rfl rfl (N_empty (Kd.slice 5 (Kd.int .u8)) 35 w4 w4.heap.size (apartW w) (Nat.le_refl _) (.inr hlt.out)) (Kd.F_below (Kd.C_F kSec_heap HC0.out) (below_step S4.out.b (below_alloc (Below.refl w4.heap.size w4) (.cells #[] 35)))) (fun k hk => ⟨.inl hk, by simp [Value.ownBlock]; have := hlt.out; omega⟩) (fun k hk => ?hfr) (below_alloc (Below.refl w4.heap.size w4) (.cells #[] 35)) (by simp; try omega) (by rw [List.length_nil, Nat.zero_add]; have := HOK.out.1; omega) ?_
          case hfr => simp only [World.size_alloc] at hk; have := hlt.out; first | exact ⟨.inr (by omega), by omega⟩ | exact .inr (by omega)
          intro v1 w5 hn hb hg hat
          rw [List.nil_append] at hn
          obtain ⟨Av, cv, rfl⟩ := Kd.N_slice hn
          refine hK.out _ _ (S4.out.step hb) (fun hHeld => ?_)
          clear hK K
          refine norm_ (a' := ?_) ?_ ?_
          rotate_left
          · show Act.put _ (some 35) _ = _
            simp only [Act.put, List.setIfInBounds_toArray, List.set_cons_zero, List.set_cons_succ, i64_w, i32_w]
            rfl
          refine pure_ (i := 6) (N := some 38) (v := ?_) (a' := ?_) #[true, true, true, true, true, true, true, false, false] rfl rfl (by kernel_rfl) (fun _ _ _ h => h) (Or.inl ⟨by rfl, ?_⟩) ?_ ?_
          rotate_left
          · intro w'
            go_simp
            with_reducible rfl
          rotate_left
          · simp only [Act.put, List.setIfInBounds_toArray, List.set_cons_zero, List.set_cons_succ, i64_w, i32_w]
            rfl
          refine one_ (i := 7) (N := some 6) #[true, true, true, true, true, true, true, true, false] rfl rfl (by kernel_rfl) (by decide) (fun K hK => ?_)
          refine value_ (w1 := ?_) (v := ?_) (by rfl) rfl ?_ ?_
          rotate_left 2
          · go_simp
            constructor
            · rfl
            · rfl
          refine hK.out _ _ (hHeld.alloc _) (fun hHeld => ?_)
          clear hK K
          refine norm_ (a' := ?_) ?_ ?_
          rotate_left
          · show Act.put _ (some 6) _ = _
            simp only [Act.put, List.setIfInBounds_toArray, List.set_cons_zero, List.set_cons_succ, i64_w, i32_w]
            rfl
          exact norm_ (by simp only [putAll, Act.put, List.setIfInBounds_toArray, List.set_cons_zero, List.set_cons_succ]) (hCont (.slice (some ⟨w4.heap.size, 0, none⟩) 0 0, (Av, cv), w5.heap.size) _ ⟨below_alloc hb _, Kd.N_alloc (Kd.N_mono (Kd.N_bound hn) (fun k hk => ⟨hk.1, Nat.ne_of_lt hk.2⟩)) _, blk_new w5 (.cells #[.slice none 0 0, .slice none 0 0, .int .i64 0, .bool false] 25), hb.size⟩)
        · skip
          refine value_ (w1 := ?_) (v := ?_) (by rfl) rfl ?_ ?_
          rotate_left 2
          · go_simp
            constructor
            · rfl
            · rfl
          refine hK.out _ _ (hHeld.alloc _) (fun hHeld => ?_)
          clear hK K
          refine norm_ (a' := ?_) ?_ ?_
          rotate_left
          · show Act.put _ (some 6) _ = _
            simp only [Act.put, List.setIfInBounds_toArray, List.set_cons_zero, List.set_cons_succ, i64_w, i32_w]
            rfl
          refine one_ (i := 3) (N := some 35) #[true, true, true, true, true, true, false, true, false] rfl rfl (by kernel_rfl) (by decide) (fun K hK => ?_)
          refine Kd.N_append_rows_step (Kd.slice 5 (Kd.int .u8)) (w0 := w4) w4.heap.size (by rfl) (.tmp 32) (.tmp 34) 22 35 (.slice none 0 0) 24 rfl Try.underlying22 info35 rfl (by decide) (by decide) (.slice (some ⟨w4.heap.size, 0, none⟩) 0 0) [] d.s A0 d.s.length c0 (fun k => apartW w k ∧ k ≠ w4.heap.size + 1) (fun k => k < w.heap.size) rfl rfl (Kd.N_alloc (N_empty (Kd.slice 5 (Kd.int .u8)) 35 w4 w4.heap.size (fun k => apartW w k ∧ k ≠ w4.heap.size + 1) (Nat.le_refl _) ⟨.inr hlt.out, by omega⟩) (.cells #[.slice none 0 0, .slice none 0 0, .int .i64 0, .bool false] 25)) (Kd.F_below (Kd.C_F kSec_heap HC0.out) (below_step S4.out.b (below_alloc (below_alloc (Below.refl w4.heap.size w4) (.cells #[] 35)) (.cells #[.slice none 0 0, .slice none 0 0, .int .i64 0, .bool false] 25)))) (fun k hk => ⟨⟨.inl hk, by have := hlt.out; omega⟩, by simp [Value.ownBlock]; have := hlt.out; omega⟩) (fun k hk => ?hfr) (below_alloc (below_alloc (Below.refl w4.heap.size w4) (.cells #[] 35)) (.cells #[.slice none 0 0, .slice none 0 0, .int .i64 0, .bool false] 25)) (by simp; try omega) (by rw [List.length_nil, Nat.zero_add]; have := HOK.out.1; omega) ?_
          case hfr => simp only [World.size_alloc] at hk; have := hlt.out; first | exact ⟨.inr (by omega), by omega⟩ | exact .inr (by omega)
          intro v1 w5 hn hb hg hat
          rw [List.nil_append] at hn
          obtain ⟨Av, cv, rfl⟩ := Kd.N_slice hn
          refine hK.out _ _ (S4.out.step hb) (fun hHeld => ?_)
          clear hK K
          refine norm_ (a' := ?_) ?_ ?_
          rotate_left
          · show Act.put _ (some 35) _ = _
            simp only [Act.put, List.setIfInBounds_toArray, List.set_cons_zero, List.set_cons_succ, i64_w, i32_w]
            rfl
          refine pure_ (i := 6) (N := some 38) (v := ?_) (a' := ?_) #[true, true, true, true, true, true, true, true, false] rfl rfl (by kernel_rfl) (fun _ _ _ h => h) (Or.inl ⟨by rfl, ?_⟩) ?_ ?_
          rotate_left
          · intro w'
            go_simp
            with_reducible rfl
          rotate_left
          · simp only [Act.put, List.setIfInBounds_toArray, List.set_cons_zero, List.set_cons_succ, i64_w, i32_w]
            rfl
          exact norm_ (by simp only [putAll, Act.put, List.setIfInBounds_toArray, List.set_cons_zero, List.set_cons_succ]) (hCont (.slice (some ⟨w4.heap.size, 0, none⟩) 0 0, (Av, cv), w4.heap.size + 1) _ ⟨hb, hn, (hg.block _ (by simp) (by simp [Value.ownBlock])).trans (by have h_ := blk_new (w4.alloc (.cells #[] 35)) (.cells #[.slice none 0 0, .slice none 0 0, .int .i64 0, .bool false] 25); rw [World.size_alloc] at h_; exact h_), Nat.le_succ _⟩)
      · skip
        refine value_ (w1 := ?_) (v := ?_) (by rfl) rfl ?_ ?_
        rotate_left 2
        · go_simp
          constructor
          · rfl
          · rfl
        refine hK.out _ _ (hHeld.alloc _) (fun hHeld => ?_)
        clear hK K
        refine norm_ (a' := ?_) ?_ ?_
        rotate_left
        · show Act.put _ (some 6) _ = _
          simp only [Act.put, List.setIfInBounds_toArray, List.set_cons_zero, List.set_cons_succ, i64_w, i32_w]
          rfl
        refine one_ (i := 0) (N := some 32) #[true, true, true, false, true, true, false, true, false] rfl rfl (by kernel_rfl) (by decide) (fun K hK => ?_)
        refine value_ (w1 := ?_) (v := ?_) (by rfl) rfl ?_ ?_
        rotate_left 2
        · go_simp
          constructor
          · rfl
          · rfl
        refine hK.out _ _ (hHeld.alloc _) (fun hHeld => ?_)
        clear hK K
        refine norm_ (a' := ?_) ?_ ?_
        rotate_left
        · show Act.put _ (some 32) _ = _
          simp only [Act.put, List.setIfInBounds_toArray, List.set_cons_zero, List.set_cons_succ, i64_w, i32_w]
          rfl
        refine one_ (i := 3) (N := some 35) #[true, true, true, true, true, true, false, true, false] rfl rfl (by kernel_rfl) (by decide) (fun K hK => ?_)
        refine Kd.N_append_rows_step (Kd.slice 5 (Kd.int .u8)) (w0 := w4) w4.heap.size (by rfl) (.tmp 32) (.tmp 34) 22 35 (.slice none 0 0) 24 rfl Try.underlying22 info35 rfl (by decide) (by decide) (.slice (some ⟨w4.heap.size + 1, 0, none⟩) 0 0) [] d.s A0 d.s.length c0 (fun k => apartW w k ∧ k ≠ w4.heap.size) (fun k => k < w.heap.size) rfl rfl (by have h_ := N_empty (Kd.slice 5 (Kd.int .u8)) 35 (w4.alloc (.cells #[.slice none 0 0, .slice none 0 0, .int .i64 0, .bool false] 25)) w4.heap.size (fun k => apartW w k ∧ k ≠ w4.heap.size) (by simp) ⟨.inr (by have := hlt.out; simp; omega), by simp⟩; rw [World.size_alloc] at h_; exact h_) (Kd.F_below (Kd.C_F kSec_heap HC0.out) (below_step S4.out.b (below_alloc (below_alloc (Below.refl w4.heap.size w4) (.cells #[.slice none 0 0, .slice none 0 0, .int .i64 0, .bool false] 25)) (.cells #[] 35)))) (fun k hk => ⟨⟨.inl hk, by have := hlt.out; omega⟩, by simp [Value.ownBlock]; have := hlt.out; omega⟩) (fun k hk => ?hfr) (below_alloc (below_alloc (Below.refl w4.heap.size w4) (.cells #[.slice none 0 0, .slice none 0 0, .int .i64 0, .bool false] 25)) (.cells #[] 35)) (by simp; try omega) (by rw [List.length_nil, Nat.zero_add]; have := HOK.out.1; omega) ?_
        case hfr => simp only [World.size_alloc] at hk; have := hlt.out; first | exact ⟨.inr (by omega), by omega⟩ | exact .inr (by omega)
        intro v1 w5 hn hb hg hat
        rw [List.nil_append] at hn
        obtain ⟨Av, cv, rfl⟩ := Kd.N_slice hn
        refine hK.out _ _ (S4.out.step hb) (fun hHeld => ?_)
        clear hK K
        refine norm_ (a' := ?_) ?_ ?_
        rotate_left
        · show Act.put _ (some 35) _ = _
          simp only [Act.put, List.setIfInBounds_toArray, List.set_cons_zero, List.set_cons_succ, i64_w, i32_w]
          rfl
        refine pure_ (i := 6) (N := some 38) (v := ?_) (a' := ?_) #[true, true, true, true, true, true, true, true, false] rfl rfl (by kernel_rfl) (fun _ _ _ h => h) (Or.inl ⟨by rfl, ?_⟩) ?_ ?_
        rotate_left
        · intro w'
          go_simp
          with_reducible rfl
        rotate_left
        · simp only [Act.put, List.setIfInBounds_toArray, List.set_cons_zero, List.set_cons_succ, i64_w, i32_w]
          rfl
        exact norm_ (by simp only [putAll, Act.put, List.setIfInBounds_toArray, List.set_cons_zero, List.set_cons_succ]) (hCont (.slice (some ⟨w4.heap.size + 1, 0, none⟩) 0 0, (Av, cv), w4.heap.size) _ ⟨hb, hn, (hg.block _ (by simp; omega) (by simp [Value.ownBlock])).trans (blk_alloc (blk_new w4 (.cells #[.slice none 0 0, .slice none 0 0, .int .i64 0, .bool false] 25)) (.cells #[] 35)), Nat.le_refl _⟩)
    rintro ⟨v32, ⟨As, cs⟩, b6⟩ w5 ⟨hb, hn, hbx, hle⟩
    dsimp only at hb hn hbx hle
    refine norm_ (a' := ?_) ?_ ?_
    rotate_left
    · simp only [putAll, Act.put, List.setIfInBounds_toArray, List.set_cons_zero, List.set_cons_succ]
      rfl
    have S5 := Aside0.mk (S4.out.step hb)
    have N5 := Aside0.mk (Kd.N_lower hn (base' := w.heap.size) S4.out.b.size)
    have X5 := Aside0.mk hbx
    have HB6 := Aside0.mk (show w.heap.size + 1 < b6 from Nat.lt_of_lt_of_le hlt.out hle)
    clear hb hn hbx hle S4 hHeld hlt
    have bz0 := (blk_cell X5.out 0).trans rfl; have bf0 := blk_frozen X5.out 0
    have bz1 := (blk_cell X5.out 1).trans rfl; have bf1 := blk_frozen X5.out 1
    have bz2 := (blk_cell X5.out 2).trans rfl; have bf2 := blk_frozen X5.out 2
    have bz3 := (blk_cell X5.out 3).trans rfl; have bf3 := blk_frozen X5.out 3
    refine last_ (i := 8) (N := none) #[true, true, true, true, true, true, true, true, true] rfl rfl (by kernel_rfl) (by decide) (fun K hK => ?_)
    refine skip_ (w1 := ?_) (by rfl) rfl ?_ ?_
    rotate_left
    · go_simp
      rfl
    refine hK.out _ _ ?_
    clear hK K
    refine done_ (by kernel_rfl) ?_
    clear bz0 bz1 bz2 bz3 bf0 bf1 bf2 bf3
    have S6 := Aside0.mk (show WS w ((((w5.setCell ⟨b6, 0, none⟩ (.slice As d.s.length cs)).setCell ⟨b6, 1, none⟩ (.slice none 0 0)).setCell ⟨b6, 2, none⟩ (.int .i64 d.left)).setCell ⟨b6, 3, none⟩ (.bool false)) #[.slice A0 d.s.length c0, .slice A1 d.p.length c1, .int .i64 d.left, .bool d.st] #[.slice none 0 0, .slice none 0 0, .int .i64 0, .bool false] from S5.out.stepB (Below.setCell (p := ⟨b6, 3, none⟩) (Below.setCell (p := ⟨b6, 2, none⟩) (Below.setCell (p := ⟨b6, 1, none⟩) (Below.setCell (p := ⟨b6, 0, none⟩) (Below.refl b6 w5) (Nat.le_refl _) (.slice As d.s.length cs)) (Nat.le_refl _) (.slice none 0 0)) (Nat.le_refl _) (.int .i64 d.left)) (Nat.le_refl _) (.bool false)) HB6.out)
    have N6 := Aside0.mk (show Kd.N (Kd.slice 5 (Kd.int .u8)) 35 ((((w5.setCell ⟨b6, 0, none⟩ (.slice As d.s.length cs)).setCell ⟨b6, 1, none⟩ (.slice none 0 0)).setCell ⟨b6, 2, none⟩ (.int .i64 d.left)).setCell ⟨b6, 3, none⟩ (.bool false)) w.heap.size (fun k => apartW w k ∧ k ≠ b6) (.slice As d.s.length cs) d.s from (Kd.N_far (p := ⟨b6, 3, none⟩) (Kd.N_far (p := ⟨b6, 2, none⟩) (Kd.N_far (p := ⟨b6, 1, none⟩) (Kd.N_far (p := ⟨b6, 0, none⟩) N5.out (fun k hk => hk.2) (.slice As d.s.length cs)) (fun k hk => hk.2) (.slice none 0 0)) (fun k hk => hk.2) (.int .i64 d.left)) (fun k hk => hk.2) (.bool false)))
    have X6 := Aside0.mk (show ((((w5.setCell ⟨b6, 0, none⟩ (.slice As d.s.length cs)).setCell ⟨b6, 1, none⟩ (.slice none 0 0)).setCell ⟨b6, 2, none⟩ (.int .i64 d.left)).setCell ⟨b6, 3, none⟩ (.bool false)).heap[b6]? = some (.cells #[.slice As d.s.length cs, .slice none 0 0, .int .i64 d.left, .bool false] 25 (0, 0)) from (blk_set (blk_set (blk_set (blk_set X5.out 0 (.slice As d.s.length cs)) 1 (.slice none 0 0)) 2 (.int .i64 d.left)) 3 (.bool false)))
    clear S5 N5 X5
    generalize ((((w5.setCell ⟨b6, 0, none⟩ (.slice As d.s.length cs)).setCell ⟨b6, 1, none⟩ (.slice none 0 0)).setCell ⟨b6, 2, none⟩ (.int .i64 d.left)).setCell ⟨b6, 3, none⟩ (.bool false)) = w6 at *
    obtain ⟨g, cap, he, hge, hgl, -⟩ := Kd.N_form N6.out (by have := HOK.out.2.2.2.2.1; omega)
    injection he with hea hel hec
    subst hea
    subst hec
    clear hel
    have HGE := Aside0.mk hge
    have HGX := Aside0.mk (show apartW w g ∧ g ≠ b6 from N6.out.1 g (by simp [Value.ownBlock]))
    clear hge hgl
    have H1 := Aside0.mk (Kd.C_F k76_heap HC1.out)
    go_wp2
    go_loopg [7] d.p.length (fun kq v7 w' => ∃ i : Nat, v7 = .int .i64 i ∧ Aside0 (i ≤ d.p.length ∧ kq + i = d.p.length) ∧ Aside0 (Kd.N (Kd.slice 5 (Kd.int .u8)) 35 w' w.heap.size (fun k => apartW w k ∧ k ≠ b6) (.slice (some ⟨g, 0, none⟩) d.s.length cs) (performD d.s (d.p.take i))) ∧ Aside0 (WS w w' #[.slice A0 d.s.length c0, .slice A1 d.p.length c1, .int .i64 d.left, .bool d.st] #[.slice none 0 0, .slice none 0 0, .int .i64 0, .bool false] ∧ w'.heap[b6]? = some (.cells #[.slice (some ⟨g, 0, none⟩) d.s.length cs, .slice none 0 0, .int .i64 d.left, .bool false] 25 (0, 0))))
    case atStart => exact ⟨0, rfl, ⟨by omega⟩, N6, ⟨S6.out, X6.out⟩⟩
    clear S6 N6 X6
    obtain ⟨i, rfl, HI, HN, HW⟩ := hrel
    by_cases hi : i < d.p.length
    · skip
      have hi0 : decide (i < d.p.length) = true := decide_eq_true hi
      have hip : i < d.p.length := Nat.lt_of_lt_of_le hi (Nat.le_refl _)
      have hi1 : decide (i < d.p.length) = true := decide_eq_true hip
      have hw := Aside0.mk (show wrap64 ((i : Int) + 1) = ((i + 1 : Nat) : Int) by have := HM1.out; unfold wrap64; omega)
      obtain ⟨ad, cx, rfl, hcl, hfk, hcc, hokb⟩ := Kd.F_get (Kd.F_below H1.out HW.out.1.b) z76 (i : Int) (by omega) (by omega)
      have hgx : d.p.getD ((i : Int)).toNat z76 = d.p[i] := by rw [show ((i : Int)).toNat = i by omega]; simp [List.getD_eq_getElem?_getD, List.getElem?_eq_getElem hip]
      rw [hgx] at hfk
      have hvx := HOK.out.2.2.2.2.2.1 _ (List.getElem_mem hip)
      have htk := Aside0.mk (take_snoc76 d.p i hip)
      generalize d.p[i] = x at *
      obtain ⟨Ax, ccx, rfl, hlx, hFx⟩ := k76_openF hfk
      have hx0 : wr.cell? (ad.add (i * 2)) = some (.int .i64 x.f0) := by have h_ := hcc 0 _ rfl; rw [show ((i : Int)).toNat = i by omega] at h_; exact h_
      have hx1 : wr.cell? ⟨(ad.add (i * 2)).block, (ad.add (i * 2)).off + 1, none⟩ = some (.slice Ax x.f1.length ccx) := by
        have h_ := hcc 1 _ rfl
        rw [show ((i : Int)).toNat = i by omega] at h_
        rw [← add_field _ _ 1 (by omega)]
        exact h_
      have HFX := Aside0.mk (fk_sec hlx hFx)
      have HX0 := Aside0.mk hx0
      have HX1 := Aside0.mk hx1
      have HVX := Aside0.mk hvx
      have hx00 := hvx.1
      have hx01 : x.f0 < (d.s.length : Int) := hvx.2.1
      clear hgx hcl hcc hfk hokb hlx hFx hvx hx0 hx1
      go_upto_region 11 with (fail)
      have HW4 := Aside0.mk HW.out.1.drew
      have HX4 := Aside0.mk (blk_drew HW.out.2)
      have HN4 := Aside0.mk (Kd.N_drew HN.out)
      have HF4 := Aside0.mk (Kd.FK_below HFX.out (below_drew1 (Below.refl wr.heap.size wr)))
      have EX0 := Aside0.mk (show wr.drew.cell? (ad.add (i * 2)) = some (.int .i64 x.f0) from HX0.out)
      have EX1 := Aside0.mk (show wr.drew.cell? ⟨(ad.add (i * 2)).block, (ad.add (i * 2)).off + 1, none⟩ = some (.slice Ax x.f1.length ccx) from HX1.out)
      refine start_ (n := 16) (S := fun w' => w'.cell? ⟨b6, 0, none⟩ = some (.slice (some ⟨g, 0, none⟩) d.s.length cs) ∧ w'.cell? ⟨w.heap.size, 1, none⟩ = some (.slice (some ad) d.p.length c1) ∧ w'.cell? (ad.add (i * 2)) = some (.int .i64 x.f0) ∧ w'.cell? ⟨(ad.add (i * 2)).block, (ad.add (i * 2)).off + 1, none⟩ = some (.slice Ax x.f1.length ccx)) (ds := [15]) #[false, false, false, false, false, false, false, false, false, false, false, false, false, false, false, false] (by kernel_rfl) rfl rfl ⟨(blk_cell HX4.out 0).trans rfl, (blk_cell HW4.out.v1 1).trans rfl, EX0.out, EX1.out⟩ (fun hHeld => ?_)
      generalize wr.drew = w4 at *
      refine pure_ (i := 0) (N := some 44) (v := ?_) (a' := ?_) #[true, false, false, false, false, false, false, false, false, false, false, false, false, false, false, false] rfl rfl (by kernel_rfl) (fun _ _ _ h => h) (Or.inl ⟨by rfl, ?_⟩) ?_ ?_
      rotate_left
      · intro w'
        go_simp
        with_reducible rfl
      rotate_left
      · simp only [Act.put, List.setIfInBounds_toArray, List.set_cons_zero, List.set_cons_succ, i64_w, i32_w]
        rfl
      refine take_ (i := 1) (N := some 45) (v := ?_) (a' := ?_) #[true, true, false, false, false, false, false, false, false, false, false, false, false, false, false, false] rfl rfl (by kernel_rfl) (fun _ _ _ h => h) (Or.inl ⟨by rfl, ?_⟩) hHeld ?_ ?_
      rotate_left
      · rintro w' ⟨s0, s1, s2, s3⟩
        go_simp
        with_reducible rfl
      rotate_left
      · simp only [Act.put, List.setIfInBounds_toArray, List.set_cons_zero, List.set_cons_succ, i64_w, i32_w]
        rfl
      refine pure_ (i := 2) (N := some 46) (v := ?_) (a' := ?_) #[true, true, true, false, false, false, false, false, false, false, false, false, false, false, false, false] rfl rfl (by kernel_rfl) (fun _ _ _ h => h) (Or.inl ⟨by rfl, ?_⟩) ?_ ?_
      rotate_left
      · intro w'
        go_simp
        with_reducible rfl
      rotate_left
      · simp only [Act.put, List.setIfInBounds_toArray, List.set_cons_zero, List.set_cons_succ, i64_w, i32_w]
        rfl
      refine take_ (i := 3) (N := some 47) (v := ?_) (a' := ?_) #[true, true, true, true, false, false, false, false, false, false, false, false, false, false, false, false] rfl rfl (by kernel_rfl) (fun _ _ _ h => h) (Or.inl ⟨by rfl, ?_⟩) hHeld ?_ ?_
      rotate_left
      · rintro w' ⟨s0, s1, s2, s3⟩
        go_simp
        with_reducible rfl
      rotate_left
      · simp only [Act.put, List.setIfInBounds_toArray, List.set_cons_zero, List.set_cons_succ, i64_w, i32_w]
        rfl
      refine pure_ (i := 4) (N := some 48) (v := ?_) (a' := ?_) #[true, true, true, true, true, false, false, false, false, false, false, false, false, false, false, false] rfl rfl (by kernel_rfl) (fun _ _ _ h => h) (Or.inl ⟨by rfl, ?_⟩) ?_ ?_
      rotate_left
      · intro w'
        go_simp
        with_reducible rfl
      rotate_left
      · simp only [Act.put, List.setIfInBounds_toArray, List.set_cons_zero, List.set_cons_succ, i64_w, i32_w]
        rfl
      refine pure_ (i := 5) (N := some 49) (v := ?_) (a' := ?_) #[true, true, true, true, true, true, false, false, false, false, false, false, false, false, false, false] rfl rfl (by kernel_rfl) (fun _ _ _ h => h) (Or.inl ⟨by rfl, ?_⟩) ?_ ?_
      rotate_left
      · intro w'
        go_simp
        with_reducible rfl
      rotate_left
      · simp only [Act.put, List.setIfInBounds_toArray, List.set_cons_zero, List.set_cons_succ, i64_w, i32_w]
        rfl
      refine pure_ (i := 6) (N := some 50) (v := ?_) (a' := ?_) #[true, true, true, true, true, true, true, false, false, false, false, false, false, false, false, false] rfl rfl (by kernel_rfl) (fun _ _ _ h => h) (Or.inl ⟨by rfl, ?_⟩) ?_ ?_
      rotate_left
      · intro w'
        go_simp
        with_reducible rfl
      rotate_left
      · simp only [Act.put, List.setIfInBounds_toArray, List.set_cons_zero, List.set_cons_succ, i64_w, i32_w]
        rfl
      refine take_ (i := 7) (N := some 51) (v := ?_) (a' := ?_) #[true, true, true, true, true, true, true, true, false, false, false, false, false, false, false, false] rfl rfl (by kernel_rfl) (fun _ _ _ h => h) (Or.inl ⟨by rfl, ?_⟩) hHeld ?_ ?_
      rotate_left
      · rintro w' ⟨s0, s1, s2, s3⟩
        go_simp
        with_reducible rfl
      rotate_left
      · simp only [Act.put, List.setIfInBounds_toArray, List.set_cons_zero, List.set_cons_succ, i64_w, i32_w]
        rfl
      refine pure_ (i := 8) (N := some 52) (v := ?_) (a' := ?_) #[true, true, true, true, true, true, true, true, true, false, false, false, false, false, false, false] rfl rfl (by kernel_rfl) (fun _ _ _ h => h) (Or.inl ⟨by rfl, ?_⟩) ?_ ?_
      rotate_left
      · intro w'
        go_simp
        with_reducible rfl
      rotate_left
      · simp only [Act.put, List.setIfInBounds_toArray, List.set_cons_zero, List.set_cons_succ, i64_w, i32_w]
        rfl
      refine take_ (i := 9) (N := some 53) (v := ?_) (a' := ?_) #[true, true, true, true, true, true, true, true, true, true, false, false, false, false, false, false] rfl rfl (by kernel_rfl) (fun _ _ _ h => h) (Or.inl ⟨by rfl, ?_⟩) hHeld ?_ ?_
      rotate_left
      · rintro w' ⟨s0, s1, s2, s3⟩
        go_simp
        with_reducible rfl
      rotate_left
      · simp only [Act.put, List.setIfInBounds_toArray, List.set_cons_zero, List.set_cons_succ, i64_w, i32_w]
        rfl
      refine pure_ (i := 10) (N := some 54) (v := ?_) (a' := ?_) #[true, true, true, true, true, true, true, true, true, true, true, false, false, false, false, false] rfl rfl (by kernel_rfl) (fun _ _ _ h => h) (Or.inl ⟨by rfl, ?_⟩) ?_ ?_
      rotate_left
      · intro w'
        go_simp
        with_reducible rfl
      rotate_left
      · simp only [Act.put, List.setIfInBounds_toArray, List.set_cons_zero, List.set_cons_succ, i64_w, i32_w]
        rfl
      refine pure_ (i := 11) (N := some 55) (v := ?_) (a' := ?_) #[true, true, true, true, true, true, true, true, true, true, true, true, false, false, false, false] rfl rfl (by kernel_rfl) (fun _ _ _ h => h) (Or.inl ⟨by rfl, ?_⟩) ?_ ?_
      rotate_left
      · intro w'
        go_simp
        with_reducible rfl
      rotate_left
      · simp only [Act.put, List.setIfInBounds_toArray, List.set_cons_zero, List.set_cons_succ, i64_w, i32_w]
        rfl
      refine pure_ (i := 12) (N := some 56) (v := ?_) (a' := ?_) #[true, true, true, true, true, true, true, true, true, true, true, true, true, false, false, false] rfl rfl (by kernel_rfl) (fun _ _ _ h => h) (Or.inl ⟨by rfl, ?_⟩) ?_ ?_
      rotate_left
      · intro w'
        go_simp
        with_reducible rfl
      rotate_left
      · simp only [Act.put, List.setIfInBounds_toArray, List.set_cons_zero, List.set_cons_succ, i64_w, i32_w]
        rfl
      refine take_ (i := 13) (N := some 57) (v := ?_) (a' := ?_) #[true, true, true, true, true, true, true, true, true, true, true, true, true, true, false, false] rfl rfl (by kernel_rfl) (fun _ _ _ h => h) (Or.inl ⟨by rfl, ?_⟩) hHeld ?_ ?_
      rotate_left
      · rintro w' ⟨s0, s1, s2, s3⟩
        go_simp
        with_reducible rfl
      rotate_left
      · simp only [Act.put, List.setIfInBounds_toArray, List.set_cons_zero, List.set_cons_succ, i64_w, i32_w]
        rfl
      refine pure_ (i := 14) (N := some 58) (v := ?_) (a' := ?_) #[true, true, true, true, true, true, true, true, true, true, true, true, true, true, true, false] rfl rfl (by kernel_rfl) (fun _ _ _ h => h) (Or.inl ⟨by rfl, ?_⟩) ?_ ?_
      rotate_left
      · intro w'
        go_simp
        with_reducible rfl
      rotate_left
      · simp only [Act.put, List.setIfInBounds_toArray, List.set_cons_zero, List.set_cons_succ, i64_w, i32_w]
        rfl
      refine last_ (i := 15) (N := none) #[true, true, true, true, true, true, true, true, true, true, true, true, true, true, true, true] rfl rfl (by kernel_rfl) (by decide) (fun K hK => ?_)
      obtain ⟨cq, hcl, -, hcc, hfr⟩ := Kd.N_elem HN4.out ([] : List Int) x.f0 HVX.out.1 HVX.out.2.1
      obtain ⟨q, rfl⟩ : ∃ q, cq = [q] := List.length_eq_one_iff.1 hcl
      refine N_store_step (Kd.slice 5 (Kd.int .u8)) (w0 := w) w.heap.size (by rfl) rfl 35 (.tmp 58) (.tmp 57) rfl 35 x.f0 0 (performD d.s (d.p.take i)) x.f1 (.slice Ax x.f1.length ccx) [.slice Ax x.f1.length ccx] [q] (fun k => apartW w k ∧ k ≠ b6) (fun k => k < w.heap.size) rfl ?ho rfl rfl (by kernel_rfl) (by intro q hq; rw [List.mem_singleton.1 hq]; rfl) HN4.out HVX.out.1 HVX.out.2.1 rfl hcc (Nat.le_refl 1) HF4.out (fun k hk => ⟨⟨.inl hk, by have := HB6.out; omega⟩, by have := HGE.out; omega⟩) HW4.out.b ?_
      case ho => exact (Nat.mul_one _).symm
      intro w7 hn7 hb7 hg7
      have N7 := Aside0.mk hn7
      have S7 := Aside0.mk (show WS w w7 #[.slice A0 d.s.length c0, .slice (some ad) d.p.length c1, .int .i64 d.left, .bool d.st] #[.slice none 0 0, .slice none 0 0, .int .i64 0, .bool false] from ⟨hb7, (hg7.block _ (by have := HW4.out.lt; omega) (fun e => apartW.ne1 g HGX.out.1 (Option.some.inj e).symm)).trans HW4.out.v1, (hg7.block _ HW4.out.lt (fun e => apartW.ne2 g HGX.out.1 (Option.some.inj e).symm)).trans HW4.out.v2⟩)
      have X7 := Aside0.mk ((hg7.block _ (blk_lt HX4.out) (fun e => HGX.out.2 (Option.some.inj e).symm)).trans HX4.out)
      clear hn7 hb7 hg7 hcl hcc hfr
      refine hK.out _ _ ?_
      clear hK K
      refine done_ (by kernel_rfl) ?_
      go_wp2
      go_roundg (gk - 1)
      case measure => have := HI.out; omega
      case rel => exact ⟨i + 1, by rw [hw.out], ⟨by have := HI.out; omega⟩, ⟨by rw [htk.out, performD_snoc]; exact N7.out⟩, ⟨S7.out, X7.out⟩⟩
    · skip
      have hi0 : decide (i < d.p.length) = false := decide_eq_false hi
      have hie : i = d.p.length := by have := HI.out; omega
      subst hie
      have S7 := Aside0.mk HW.out.1
      have X7 := Aside0.mk HW.out.2
      have N7 := Aside0.mk (show Kd.N (Kd.slice 5 (Kd.int .u8)) 35 wr w.heap.size (fun k => apartW w k ∧ k ≠ b6) (.slice (some ⟨g, 0, none⟩) d.s.length cs) (performD d.s d.p) from by have h_ := HN.out; rwa [List.take_length] at h_)
      have v1z0 := (blk_cell S7.out.v1 0).trans rfl; have v1f0 := blk_frozen S7.out.v1 0; have v2z0 := (blk_cell S7.out.v2 0).trans rfl; have v2f0 := blk_frozen S7.out.v2 0; have v1z1 := (blk_cell S7.out.v1 1).trans rfl; have v1f1 := blk_frozen S7.out.v1 1; have v2z1 := (blk_cell S7.out.v2 1).trans rfl; have v2f1 := blk_frozen S7.out.v2 1; have v1z2 := (blk_cell S7.out.v1 2).trans rfl; have v1f2 := blk_frozen S7.out.v1 2; have v2z2 := (blk_cell S7.out.v2 2).trans rfl; have v2f2 := blk_frozen S7.out.v2 2; have v1z3 := (blk_cell S7.out.v1 3).trans rfl; have v1f3 := blk_frozen S7.out.v1 3; have v2z3 := (blk_cell S7.out.v2 3).trans rfl; have v2f3 := blk_frozen S7.out.v2 3
      have bz0 := (blk_cell X7.out 0).trans rfl; have bf0 := blk_frozen X7.out 0; have bz1 := (blk_cell X7.out 1).trans rfl; have bf1 := blk_frozen X7.out 1; have bz2 := (blk_cell X7.out 2).trans rfl; have bf2 := blk_frozen X7.out 2; have bz3 := (blk_cell X7.out 3).trans rfl; have bf3 := blk_frozen X7.out 3
      have hleft := of_decide_eq_true HQ.out
      have hw := w64sub d.left d.p.length HOK.out.2.2.1 HOK.out.2.2.2.1 HOK.out.2.1
      clear hleft
      go_upto_region 20 with (fail)
      have S8 := Aside0.mk (S7.out.stepB (Below.setCell (p := ⟨b6, 2, none⟩) (Below.refl b6 wr) (Nat.le_refl _) (.int .i64 (d.left - (d.p.length : Int)))) HB6.out)
      have N8 := Aside0.mk (Kd.N_far (p := ⟨b6, 2, none⟩) N7.out (fun k hk => hk.2) (.int .i64 (d.left - (d.p.length : Int))))
      have X8 := Aside0.mk (show (wr.setCell ⟨b6, 2, none⟩ (.int .i64 (d.left - (d.p.length : Int)))).heap[b6]? = some (.cells #[.slice (some ⟨g, 0, none⟩) d.s.length cs, .slice none 0 0, .int .i64 (d.left - (d.p.length : Int)), .bool false] 25 (0, 0)) from blk_set X7.out 2 (.int .i64 (d.left - (d.p.length : Int))))
      clear v1z0 v1f0 v2z0 v2f0 v1z1 v1f1 v2z1 v2f1 v1z2 v1f2 v2z2 v2f2 v1z3 v1f3 v2z3 v2f3
      clear bz0 bz1 bz2 bz3 bf0 bf1 bf2 bf3 S7 N7 X7 hw
      generalize wr.setCell ⟨b6, 2, none⟩ (.int .i64 (d.left - (d.p.length : Int))) = w8 at *
      have v1z0 := (blk_cell S8.out.v1 0).trans rfl; have v1f0 := blk_frozen S8.out.v1 0; have v2z0 := (blk_cell S8.out.v2 0).trans rfl; have v2f0 := blk_frozen S8.out.v2 0; have v1z1 := (blk_cell S8.out.v1 1).trans rfl; have v1f1 := blk_frozen S8.out.v1 1; have v2z1 := (blk_cell S8.out.v2 1).trans rfl; have v2f1 := blk_frozen S8.out.v2 1; have v1z2 := (blk_cell S8.out.v1 2).trans rfl; have v1f2 := blk_frozen S8.out.v1 2; have v2z2 := (blk_cell S8.out.v2 2).trans rfl; have v2f2 := blk_frozen S8.out.v2 2; have v1z3 := (blk_cell S8.out.v1 3).trans rfl; have v1f3 := blk_frozen S8.out.v1 3; have v2z3 := (blk_cell S8.out.v2 3).trans rfl; have v2f3 := blk_frozen S8.out.v2 3
      have bz0 := (blk_cell X8.out 0).trans rfl; have bf0 := blk_frozen X8.out 0; have bz1 := (blk_cell X8.out 1).trans rfl; have bf1 := blk_frozen X8.out 1; have bz2 := (blk_cell X8.out 2).trans rfl; have bf2 := blk_frozen X8.out 2; have bz3 := (blk_cell X8.out 3).trans rfl; have bf3 := blk_frozen X8.out 3
      go_wp2
      replace S8 := S8.out
      replace N8 := N8.out
      have E := ((((S8.set2 0 (.slice (some ⟨g, 0, none⟩) d.s.length cs)).set2 1 (.slice none 0 0)).set2 2 (.int .i64 (d.left - (d.p.length : Int)))).set2 3 (.bool false))
      have N9 := (Kd.N_far (p := ⟨w.heap.size + 1, 3, none⟩) (Kd.N_far (p := ⟨w.heap.size + 1, 2, none⟩) (Kd.N_far (p := ⟨w.heap.size + 1, 1, none⟩) (Kd.N_far (p := ⟨w.heap.size + 1, 0, none⟩) N8 (fun k hk => apartW.ne2 k hk.1) (.slice (some ⟨g, 0, none⟩) d.s.length cs)) (fun k hk => apartW.ne2 k hk.1) (.slice none 0 0)) (fun k hk => apartW.ne2 k hk.1) (.int .i64 (d.left - (d.p.length : Int)))) (fun k hk => apartW.ne2 k hk.1) (.bool false))
      refine bodyPost_ret (results_ct rfl _ _ (w.heap.size + 1) 25 #[.slice (some ⟨g, 0, none⟩) d.s.length cs, .slice none 0 0, .int .i64 (d.left - (d.p.length : Int)), .bool false] (0, 0) _ rfl E.v2 hu25 rfl info25') rfl ?_
      refine ⟨⟨_, by rw [HE.out]; rfl, ?_⟩, E.b⟩
      rw [HE.out]
      have hlen := performD_len d.s d.p
      have hif : (if 0 ≤ d.left then d.left - d.p.length else d.left) = d.left - d.p.length := if_pos (of_decide_eq_true HQ.out)
      rw [hif]
      exact ⟨some ⟨g, 0, none⟩, cs, none, 0, by rw [hlen]; rfl, by rw [hlen]; have h_ := Kd.N_reads' N9; rw [hlen] at h_; exact h_.2.1, Nat.le_refl _, (by have h_ := (Kd.N_reads' N9).2.2; exact h_), Kd.C_nil _ _⟩
end Go.Proofs.Ytlnmjgkeiljniaa.Q
/- sizarref45.Sync: the disk stops. -/
namespace Go.Proofs.Ytlnmjgkeiljniaa.Q
open Go.RowKit Go.Proofs.YtlnmjgkeiljniaaW.PrintWords Go.Proofs.YtlnmjgkeiljniaaW.PrintLast Go.Proofs.YtlnmjgkeiljniaaW.PrintMore
set_option linter.unusedVariables false
set_option linter.unusedSimpArgs false
set_option maxHeartbeats 8000000 in
set_option maxRecDepth 100000 in
theorem refsync_tear (v : Value) (d : Dk) (w : World) (h : DiskV w v d) (hr : runsD d = true) (hl : 0 ≤ d.left ∧ d.left < d.p.length) : Calls Try.prog 31 #[v] w (DEnds w (syncD d)) := by
  have hd := h
  obtain ⟨A0, c0, A1, c1, rfl, h0, h1, hC0, hC1⟩ := h
  have S2 := Aside0.mk (WS.new w #[.slice A0 d.s.length c0, .slice A1 d.p.length c1, .int .i64 d.left, .bool d.st] #[.slice none 0 0, .slice none 0 0, .int .i64 0, .bool false])
  have D2 := Aside0.mk (hd.below S2.out.b)
  have HC0 := Aside0.mk hC0
  have HC1 := Aside0.mk hC1
  have HM1 := Aside0.mk hC1.2.1
  have HL := Aside0.mk (And.intro h0 h1)
  have hu25 := Try.underlying25
  clear hd h0 h1 hC0 hC1
  have HOK := Aside0.mk (runs_ok hr)
  have HE := Aside0.mk (show syncD d = (⟨(performD d.s (d.p.take d.left.toNat)).set (d.p.getD d.left.toNat z76).f0.toNat (tear ((performD d.s (d.p.take d.left.toNat)).getD (d.p.getD d.left.toNat z76).f0.toNat []) (d.p.getD d.left.toNat z76).f1), [], 0, true⟩, 450) from by unfold syncD; rw [if_pos hr, if_pos hl])
  have HK := Aside0.mk (is_run hr).1
  have HST := Aside0.mk (is_run hr).2.1
  have HLT := Aside0.mk (show d.left.toNat < d.p.length by omega)
  have HL0 := Aside0.mk hl.1
  have q0 : decide (0 ≤ d.left) = true := decide_eq_true hl.1
  have q1 : decide (d.left < (d.p.length : Int)) = true := decide_eq_true hl.2
  clear hr hl
  go_enter Try.func31, Try.ntmps31
  go_upto_region 7 with (go_at_call 23; (refine (refcheck_says _ d _ D2.out).mono ?_); rintro e w1 ⟨he, hb⟩; rw [HK.out] at he; obtain rfl := he; have S3 := Aside0.mk (S2.out.step hb); have v1z0 := (blk_cell S3.out.v1 0).trans rfl; have v1f0 := blk_frozen S3.out.v1 0; have v2z0 := (blk_cell S3.out.v2 0).trans rfl; have v2f0 := blk_frozen S3.out.v2 0; have v1z1 := (blk_cell S3.out.v1 1).trans rfl; have v1f1 := blk_frozen S3.out.v1 1; have v2z1 := (blk_cell S3.out.v2 1).trans rfl; have v2f1 := blk_frozen S3.out.v2 1; have v1z2 := (blk_cell S3.out.v1 2).trans rfl; have v1f2 := blk_frozen S3.out.v1 2; have v2z2 := (blk_cell S3.out.v2 2).trans rfl; have v2f2 := blk_frozen S3.out.v2 2; have v1z3 := (blk_cell S3.out.v1 3).trans (show _ = some (Value.bool false) from by rw [← HST.out]; rfl); have v1f3 := blk_frozen S3.out.v1 3; have v2z3 := (blk_cell S3.out.v2 3).trans rfl; have v2f3 := blk_frozen S3.out.v2 3; clear hb)
  refine start_ (n := 9) (S := fun w' => WS w w' #[.slice A0 d.s.length c0, .slice A1 d.p.length c1, .int .i64 d.left, .bool d.st] #[.slice none 0 0, .slice none 0 0, .int .i64 0, .bool false]) (ds := [8]) #[false, false, false, false, false, false, false, false, false] (by kernel_rfl) rfl rfl S3.out.drew (fun hHeld => ?_)
  have S4 := Aside0.mk S3.out.drew
  clear v1z0 v1f0 v2z0 v2f0 v1z1 v1f1 v2z1 v2f1 v1z2 v1f2 v2z2 v2f2 v1z3 v1f3 v2z3 v2f3
  clear S2 S3 D2
  generalize w1.drew = w4 at *
  have hlt := S4.out.lt
  replace hlt := Aside0.mk hlt
  refine pure_ (i := 1) (N := some 33) (v := ?_) (a' := ?_) #[false, true, false, false, false, false, false, false, false] rfl rfl (by kernel_rfl) (fun _ _ _ h => h) (Or.inl ⟨by rfl, ?_⟩) ?_ ?_
  rotate_left
  · intro w'
    go_simp
    with_reducible rfl
  rotate_left
  · simp only [Act.put, List.setIfInBounds_toArray, List.set_cons_zero, List.set_cons_succ, i64_w, i32_w]
    rfl
  refine take_ (i := 2) (N := some 34) (v := ?_) (a' := ?_) #[false, true, true, false, false, false, false, false, false] rfl rfl (by kernel_rfl) (fun _ _ _ h => h) (Or.inl ⟨by rfl, ?_⟩) hHeld ?_ ?_
  rotate_left
  · rintro w' s0
    have q0 := (blk_cell s0.v1 0).trans rfl
    go_simp
    with_reducible rfl
  rotate_left
  · simp only [Act.put, List.setIfInBounds_toArray, List.set_cons_zero, List.set_cons_succ, i64_w, i32_w]
    rfl
  refine pure_ (i := 4) (N := some 36) (v := ?_) (a' := ?_) #[false, true, true, false, true, false, false, false, false] rfl rfl (by kernel_rfl) (fun _ _ _ h => h) (Or.inl ⟨by rfl, ?_⟩) ?_ ?_
  rotate_left
  · intro w'
    go_simp
    with_reducible rfl
  rotate_left
  · simp only [Act.put, List.setIfInBounds_toArray, List.set_cons_zero, List.set_cons_succ, i64_w, i32_w]
    rfl
  refine take_ (i := 5) (N := some 37) (v := ?_) (a' := ?_) #[false, true, true, false, true, true, false, false, false] rfl rfl (by kernel_rfl) (fun _ _ _ h => h) (Or.inl ⟨by rfl, ?_⟩) hHeld ?_ ?_
  rotate_left
  · rintro w' s0
    have q0 := (blk_cell s0.v1 2).trans rfl
    go_simp
    with_reducible rfl
  rotate_left
  · simp only [Act.put, List.setIfInBounds_toArray, List.set_cons_zero, List.set_cons_succ, i64_w, i32_w]
    rfl
  refine join_ (σ := Value × (Option Addr × Nat) × Nat) 1 #[true, true, true, true, true, true, true, true, false] (fun s_ => [(32, s_.1), (35, .slice s_.2.1.1 d.s.length s_.2.1.2), (38, .agg #[.slice s_.2.1.1 d.s.length s_.2.1.2, .slice none 0 0, .int .i64 d.left, .bool false]), (6, .pointer (some ⟨s_.2.2, 0, none⟩))]) (fun s_ w' => Below w4.heap.size w4 w' ∧ Kd.N (Kd.slice 5 (Kd.int .u8)) 35 w' w4.heap.size (fun k => apartW w k ∧ k ≠ s_.2.2) (.slice s_.2.1.1 d.s.length s_.2.1.2) d.s ∧ w'.heap[s_.2.2]? = some (.cells #[.slice none 0 0, .slice none 0 0, .int .i64 0, .bool false] 25 (0, 0)) ∧ w4.heap.size ≤ s_.2.2) ?_ ?_
  rotate_left
  · intro hCont
    refine two_ (i := 0) (j := 7) (Ni := some 32) (Nj := some 6) #[true, true, true, false, true, true, false, false, false] #[false, true, true, false, true, true, false, true, false] rfl rfl rfl rfl (by kernel_rfl) (by decide) (by decide) (fun K hK => ?_) (fun K hK => ?_)
    · skip
      refine value_ (w1 := ?_) (v := ?_) (by rfl) rfl ?_ ?_
      rotate_left 2
      · go_simp
        constructor
        · rfl
        · rfl
      refine hK.out _ _ (hHeld.alloc _) (fun hHeld => ?_)
      clear hK K
      refine norm_ (a' := ?_) ?_ ?_
      rotate_left
      · show Act.put _ (some 32) _ = _
        simp only [Act.put, List.setIfInBounds_toArray, List.set_cons_zero, List.set_cons_succ, i64_w, i32_w]
        rfl
      refine two_ (i := 3) (j := 7) (Ni := some 35) (Nj := some 6) #[true, true, true, true, true, true, false, false, false] #[true, true, true, false, true, true, false, true, false] rfl rfl rfl rfl (by kernel_rfl) (by decide) (by decide) (fun K hK => ?_) (fun K hK => ?_)
      · skip
        refine Kd.N_append_rows_step (Kd.slice 5 (Kd.int .u8)) (w0 := w4) w4.heap.size (by rfl) (.tmp 32) (.tmp 34) 22 35 (.slice none 0 0) 24 rfl Try.underlying22 info35 rfl (by decide) (by decide) (.slice (some ⟨w4.heap.size, 0, none⟩) 0 0) [] d.s A0 d.s.length c0 (apartW w) (fun k => k < w.heap.size) rfl rfl (N_empty (Kd.slice 5 (Kd.int .u8)) 35 w4 w4.heap.size (apartW w) (Nat.le_refl _) (.inr hlt.out)) (Kd.F_below (Kd.C_F kSec_heap HC0.out) (below_step S4.out.b (below_alloc (Below.refl w4.heap.size w4) (.cells #[] 35)))) (fun k hk => ⟨.inl hk, by simp [Value.ownBlock]; have := hlt.out; omega⟩) (fun k hk => ?hfr) (below_alloc (Below.refl w4.heap.size w4) (.cells #[] 35)) (by simp; try omega) (by rw [List.length_nil, Nat.zero_add]; have := HOK.out.1; omega) ?_
        case hfr => simp only [World.size_alloc] at hk; have := hlt.out; first | exact ⟨.inr (by omega), by omega⟩ | exact .inr (by omega)
        intro v1 w5 hn hb hg hat
        rw [List.nil_append] at hn
        obtain ⟨Av, cv, rfl⟩ := Kd.N_slice hn
        refine hK.out _ _ (S4.out.step hb) (fun hHeld => ?_)
        clear hK K
        refine norm_ (a' := ?_) ?_ ?_
        rotate_left
        · show Act.put _ (some 35) _ = _
          simp only [Act.put, List.setIfInBounds_toArray, List.set_cons_zero, List.set_cons_succ, i64_w, i32_w]
          rfl
        refine pure_ (i := 6) (N := some 38) (v := ?_) (a' := ?_) #[true, true, true, true, true, true, true, false, false] rfl rfl (by kernel_rfl) (fun _ _ _ h => h) (Or.inl ⟨by rfl, ?_⟩) ?_ ?_
        rotate_left
        · intro w'
          go_simp
          with_reducible rfl
        rotate_left
        · simp only [Act.put, List.setIfInBounds_toArray, List.set_cons_zero, List.set_cons_succ, i64_w, i32_w]
          rfl
        refine one_ (i := 7) (N := some 6) #[true, true, true, true, true, true, true, true, false] rfl rfl (by kernel_rfl) (by decide) (fun K hK => ?_)
        refine value_ (w1 := ?_) (v := ?_) (by rfl) rfl ?_ ?_
        rotate_left 2
        · go_simp
          constructor
          · rfl
          · rfl
        refine hK.out _ _ (hHeld.alloc _) (fun hHeld => ?_)
        clear hK K
        refine norm_ (a' := ?_) ?_ ?_
        rotate_left
        · show Act.put _ (some 6) _ = _
          simp only [Act.put, List.setIfInBounds_toArray, List.set_cons_zero, List.set_cons_succ, i64_w, i32_w]
          rfl
        exact norm_ (by simp only [putAll, Act.put, List.setIfInBounds_toArray, List.set_cons_zero, List.set_cons_succ]) (hCont (.slice (some ⟨w4.heap.size, 0, none⟩) 0 0, (Av, cv), w5.heap.size) _ ⟨below_alloc hb _, Kd.N_alloc (Kd.N_mono (Kd.N_bound hn) (fun k hk => ⟨hk.1, Nat.ne_of_lt hk.2⟩)) _, blk_new w5 (.cells #[.slice none 0 0, .slice none 0 0, .int .i64 0, .bool false] 25), hb.size⟩)
      · skip
        refine value_ (w1 := ?_) (v := ?_) (by rfl) rfl ?_ ?_
        rotate_left 2
        · go_simp
          constructor
          · rfl
          · rfl
        refine hK.out _ _ (hHeld.alloc _) (fun hHeld => ?_)
        clear hK K
        refine norm_ (a' := ?_) ?_ ?_
        rotate_left
        · show Act.put _ (some 6) _ = _
          simp only [Act.put, List.setIfInBounds_toArray, List.set_cons_zero, List.set_cons_succ, i64_w, i32_w]
          rfl
        refine one_ (i := 3) (N := some 35) #[true, true, true, true, true, true, false, true, false] rfl rfl (by kernel_rfl) (by decide) (fun K hK => ?_)
        refine Kd.N_append_rows_step (Kd.slice 5 (Kd.int .u8)) (w0 := w4) w4.heap.size (by rfl) (.tmp 32) (.tmp 34) 22 35 (.slice none 0 0) 24 rfl Try.underlying22 info35 rfl (by decide) (by decide) (.slice (some ⟨w4.heap.size, 0, none⟩) 0 0) [] d.s A0 d.s.length c0 (fun k => apartW w k ∧ k ≠ w4.heap.size + 1) (fun k => k < w.heap.size) rfl rfl (Kd.N_alloc (N_empty (Kd.slice 5 (Kd.int .u8)) 35 w4 w4.heap.size (fun k => apartW w k ∧ k ≠ w4.heap.size + 1) (Nat.le_refl _) ⟨.inr hlt.out, by omega⟩) (.cells #[.slice none 0 0, .slice none 0 0, .int .i64 0, .bool false] 25)) (Kd.F_below (Kd.C_F kSec_heap HC0.out) (below_step S4.out.b (below_alloc (below_alloc (Below.refl w4.heap.size w4) (.cells #[] 35)) (.cells #[.slice none 0 0, .slice none 0 0, .int .i64 0, .bool false] 25)))) (fun k hk => ⟨⟨.inl hk, by have := hlt.out; omega⟩, by simp [Value.ownBlock]; have := hlt.out; omega⟩) (fun k hk => ?hfr) (below_alloc (below_alloc (Below.refl w4.heap.size w4) (.cells #[] 35)) (.cells #[.slice none 0 0, .slice none 0 0, .int .i64 0, .bool false] 25)) (by simp; try omega) (by rw [List.length_nil, Nat.zero_add]; have := HOK.out.1; omega) ?_
        case hfr => simp only [World.size_alloc] at hk; have := hlt.out; first | exact ⟨.inr (by omega), by omega⟩ | exact .inr (by omega)
        intro v1 w5 hn hb hg hat
        rw [List.nil_append] at hn
        obtain ⟨Av, cv, rfl⟩ := Kd.N_slice hn
        refine hK.out _ _ (S4.out.step hb) (fun hHeld => ?_)
        clear hK K
        refine norm_ (a' := ?_) ?_ ?_
        rotate_left
        · show Act.put _ (some 35) _ = _
          simp only [Act.put, List.setIfInBounds_toArray, List.set_cons_zero, List.set_cons_succ, i64_w, i32_w]
          rfl
        refine pure_ (i := 6) (N := some 38) (v := ?_) (a' := ?_) #[true, true, true, true, true, true, true, true, false] rfl rfl (by kernel_rfl) (fun _ _ _ h => h) (Or.inl ⟨by rfl, ?_⟩) ?_ ?_
        rotate_left
        · intro w'
          go_simp
          with_reducible rfl
        rotate_left
        · simp only [Act.put, List.setIfInBounds_toArray, List.set_cons_zero, List.set_cons_succ, i64_w, i32_w]
          rfl
        exact norm_ (by simp only [putAll, Act.put, List.setIfInBounds_toArray, List.set_cons_zero, List.set_cons_succ]) (hCont (.slice (some ⟨w4.heap.size, 0, none⟩) 0 0, (Av, cv), w4.heap.size + 1) _ ⟨hb, hn, (hg.block _ (by simp) (by simp [Value.ownBlock])).trans (by have h_ := blk_new (w4.alloc (.cells #[] 35)) (.cells #[.slice none 0 0, .slice none 0 0, .int .i64 0, .bool false] 25); rw [World.size_alloc] at h_; exact h_), Nat.le_succ _⟩)
    · skip
      refine value_ (w1 := ?_) (v := ?_) (by rfl) rfl ?_ ?_
      rotate_left 2
      · go_simp
        constructor
        · rfl
        · rfl
      refine hK.out _ _ (hHeld.alloc _) (fun hHeld => ?_)
      clear hK K
      refine norm_ (a' := ?_) ?_ ?_
      rotate_left
      · show Act.put _ (some 6) _ = _
        simp only [Act.put, List.setIfInBounds_toArray, List.set_cons_zero, List.set_cons_succ, i64_w, i32_w]
        rfl
      refine one_ (i := 0) (N := some 32) #[true, true, true, false, true, true, false, true, false] rfl rfl (by kernel_rfl) (by decide) (fun K hK => ?_)
      refine value_ (w1 := ?_) (v := ?_) (by rfl) rfl ?_ ?_
      rotate_left 2
      · go_simp
        constructor
        · rfl
        · rfl
      refine hK.out _ _ (hHeld.alloc _) (fun hHeld => ?_)
      clear hK K
      refine norm_ (a' := ?_) ?_ ?_
      rotate_left
      · show Act.put _ (some 32) _ = _
        simp only [Act.put, List.setIfInBounds_toArray, List.set_cons_zero, List.set_cons_succ, i64_w, i32_w]
        rfl
      refine one_ (i := 3) (N := some 35) #[true, true, true, true, true, true, false, true, false] rfl rfl (by kernel_rfl) (by decide) (fun K hK => ?_)
      refine Kd.N_append_rows_step (Kd.slice 5 (Kd.int .u8)) (w0 := w4) w4.heap.size (by rfl) (.tmp 32) (.tmp 34) 22 35 (.slice none 0 0) 24 rfl Try.underlying22 info35 rfl (by decide) (by decide) (.slice (some ⟨w4.heap.size + 1, 0, none⟩) 0 0) [] d.s A0 d.s.length c0 (fun k => apartW w k ∧ k ≠ w4.heap.size) (fun k => k < w.heap.size) rfl rfl (by have h_ := N_empty (Kd.slice 5 (Kd.int .u8)) 35 (w4.alloc (.cells #[.slice none 0 0, .slice none 0 0, .int .i64 0, .bool false] 25)) w4.heap.size (fun k => apartW w k ∧ k ≠ w4.heap.size) (by simp) ⟨.inr (by have := hlt.out; simp; omega), by simp⟩; rw [World.size_alloc] at h_; exact h_) (Kd.F_below (Kd.C_F kSec_heap HC0.out) (below_step S4.out.b (below_alloc (below_alloc (Below.refl w4.heap.size w4) (.cells #[.slice none 0 0, .slice none 0 0, .int .i64 0, .bool false] 25)) (.cells #[] 35)))) (fun k hk => ⟨⟨.inl hk, by have := hlt.out; omega⟩, by simp [Value.ownBlock]; have := hlt.out; omega⟩) (fun k hk => ?hfr) (below_alloc (below_alloc (Below.refl w4.heap.size w4) (.cells #[.slice none 0 0, .slice none 0 0, .int .i64 0, .bool false] 25)) (.cells #[] 35)) (by simp; try omega) (by rw [List.length_nil, Nat.zero_add]; have := HOK.out.1; omega) ?_
      case hfr => simp only [World.size_alloc] at hk; have := hlt.out; first | exact ⟨.inr (by omega), by omega⟩ | exact .inr (by omega)
      intro v1 w5 hn hb hg hat
      rw [List.nil_append] at hn
      obtain ⟨Av, cv, rfl⟩ := Kd.N_slice hn
      refine hK.out _ _ (S4.out.step hb) (fun hHeld => ?_)
      clear hK K
      refine norm_ (a' := ?_) ?_ ?_
      rotate_left
      · show Act.put _ (some 35) _ = _
        simp only [Act.put, List.setIfInBounds_toArray, List.set_cons_zero, List.set_cons_succ, i64_w, i32_w]
        rfl
      refine pure_ (i := 6) (N := some 38) (v := ?_) (a' := ?_) #[true, true, true, true, true, true, true, true, false] rfl rfl (by kernel_rfl) (fun _ _ _ h => h) (Or.inl ⟨by rfl, ?_⟩) ?_ ?_
      rotate_left
      · intro w'
        go_simp
        with_reducible rfl
      rotate_left
      · simp only [Act.put, List.setIfInBounds_toArray, List.set_cons_zero, List.set_cons_succ, i64_w, i32_w]
        rfl
      exact norm_ (by simp only [putAll, Act.put, List.setIfInBounds_toArray, List.set_cons_zero, List.set_cons_succ]) (hCont (.slice (some ⟨w4.heap.size + 1, 0, none⟩) 0 0, (Av, cv), w4.heap.size) _ ⟨hb, hn, (hg.block _ (by simp; omega) (by simp [Value.ownBlock])).trans (blk_alloc (blk_new w4 (.cells #[.slice none 0 0, .slice none 0 0, .int .i64 0, .bool false] 25)) (.cells #[] 35)), Nat.le_refl _⟩)
  rintro ⟨v32, ⟨As, cs⟩, b6⟩ w5 ⟨hb, hn, hbx, hle⟩
  dsimp only at hb hn hbx hle
  refine norm_ (a' := ?_) ?_ ?_
  rotate_left
  · simp only [putAll, Act.put, List.setIfInBounds_toArray, List.set_cons_zero, List.set_cons_succ]
    rfl
  have S5 := Aside0.mk (S4.out.step hb)
  have N5 := Aside0.mk (Kd.N_lower hn (base' := w.heap.size) S4.out.b.size)
  have X5 := Aside0.mk hbx
  have HB6 := Aside0.mk (show w.heap.size + 1 < b6 from Nat.lt_of_lt_of_le hlt.out hle)
  clear hb hn hbx hle S4 hHeld hlt
  have bz0 := (blk_cell X5.out 0).trans rfl; have bf0 := blk_frozen X5.out 0
  have bz1 := (blk_cell X5.out 1).trans rfl; have bf1 := blk_frozen X5.out 1
  have bz2 := (blk_cell X5.out 2).trans rfl; have bf2 := blk_frozen X5.out 2
  have bz3 := (blk_cell X5.out 3).trans rfl; have bf3 := blk_frozen X5.out 3
  refine last_ (i := 8) (N := none) #[true, true, true, true, true, true, true, true, true] rfl rfl (by kernel_rfl) (by decide) (fun K hK => ?_)
  refine skip_ (w1 := ?_) (by rfl) rfl ?_ ?_
  rotate_left
  · go_simp
    rfl
  refine hK.out _ _ ?_
  clear hK K
  refine done_ (by kernel_rfl) ?_
  clear bz0 bz1 bz2 bz3 bf0 bf1 bf2 bf3
  have S6 := Aside0.mk (show WS w ((((w5.setCell ⟨b6, 0, none⟩ (.slice As d.s.length cs)).setCell ⟨b6, 1, none⟩ (.slice none 0 0)).setCell ⟨b6, 2, none⟩ (.int .i64 d.left)).setCell ⟨b6, 3, none⟩ (.bool false)) #[.slice A0 d.s.length c0, .slice A1 d.p.length c1, .int .i64 d.left, .bool d.st] #[.slice none 0 0, .slice none 0 0, .int .i64 0, .bool false] from S5.out.stepB (Below.setCell (p := ⟨b6, 3, none⟩) (Below.setCell (p := ⟨b6, 2, none⟩) (Below.setCell (p := ⟨b6, 1, none⟩) (Below.setCell (p := ⟨b6, 0, none⟩) (Below.refl b6 w5) (Nat.le_refl _) (.slice As d.s.length cs)) (Nat.le_refl _) (.slice none 0 0)) (Nat.le_refl _) (.int .i64 d.left)) (Nat.le_refl _) (.bool false)) HB6.out)
  have N6 := Aside0.mk (show Kd.N (Kd.slice 5 (Kd.int .u8)) 35 ((((w5.setCell ⟨b6, 0, none⟩ (.slice As d.s.length cs)).setCell ⟨b6, 1, none⟩ (.slice none 0 0)).setCell ⟨b6, 2, none⟩ (.int .i64 d.left)).setCell ⟨b6, 3, none⟩ (.bool false)) w.heap.size (fun k => apartW w k ∧ k ≠ b6) (.slice As d.s.length cs) d.s from (Kd.N_far (p := ⟨b6, 3, none⟩) (Kd.N_far (p := ⟨b6, 2, none⟩) (Kd.N_far (p := ⟨b6, 1, none⟩) (Kd.N_far (p := ⟨b6, 0, none⟩) N5.out (fun k hk => hk.2) (.slice As d.s.length cs)) (fun k hk => hk.2) (.slice none 0 0)) (fun k hk => hk.2) (.int .i64 d.left)) (fun k hk => hk.2) (.bool false)))
  have X6 := Aside0.mk (show ((((w5.setCell ⟨b6, 0, none⟩ (.slice As d.s.length cs)).setCell ⟨b6, 1, none⟩ (.slice none 0 0)).setCell ⟨b6, 2, none⟩ (.int .i64 d.left)).setCell ⟨b6, 3, none⟩ (.bool false)).heap[b6]? = some (.cells #[.slice As d.s.length cs, .slice none 0 0, .int .i64 d.left, .bool false] 25 (0, 0)) from (blk_set (blk_set (blk_set (blk_set X5.out 0 (.slice As d.s.length cs)) 1 (.slice none 0 0)) 2 (.int .i64 d.left)) 3 (.bool false)))
  clear S5 N5 X5
  generalize ((((w5.setCell ⟨b6, 0, none⟩ (.slice As d.s.length cs)).setCell ⟨b6, 1, none⟩ (.slice none 0 0)).setCell ⟨b6, 2, none⟩ (.int .i64 d.left)).setCell ⟨b6, 3, none⟩ (.bool false)) = w6 at *
  obtain ⟨g, cap, he, hge, hgl, -⟩ := Kd.N_form N6.out (by have := HOK.out.2.2.2.2.1; omega)
  injection he with hea hel hec
  subst hea
  subst hec
  clear hel
  have HGE := Aside0.mk hge
  have HGX := Aside0.mk (show apartW w g ∧ g ≠ b6 from N6.out.1 g (by simp [Value.ownBlock]))
  clear hge hgl
  have H1 := Aside0.mk (Kd.C_F k76_heap HC1.out)
  go_wp2
  go_loopg [7] d.left.toNat (fun kq v7 w' => ∃ i : Nat, v7 = .int .i64 i ∧ Aside0 (i ≤ d.left.toNat ∧ kq + i = d.left.toNat) ∧ Aside0 (Kd.N (Kd.slice 5 (Kd.int .u8)) 35 w' w.heap.size (fun k => apartW w k ∧ k ≠ b6) (.slice (some ⟨g, 0, none⟩) d.s.length cs) (performD d.s (d.p.take i))) ∧ Aside0 (WS w w' #[.slice A0 d.s.length c0, .slice A1 d.p.length c1, .int .i64 d.left, .bool d.st] #[.slice none 0 0, .slice none 0 0, .int .i64 0, .bool false] ∧ w'.heap[b6]? = some (.cells #[.slice (some ⟨g, 0, none⟩) d.s.length cs, .slice none 0 0, .int .i64 d.left, .bool false] 25 (0, 0))))
  case atStart => exact ⟨0, rfl, ⟨by omega⟩, N6, ⟨S6.out, X6.out⟩⟩
  clear S6 N6 X6
  obtain ⟨i, rfl, HI, HN, HW⟩ := hrel
  by_cases hi : i < d.left.toNat
  · skip
    have hi0 : decide ((i : Int) < d.left) = true := decide_eq_true (by omega)
    have hip : i < d.p.length := Nat.lt_of_lt_of_le hi (Nat.le_of_lt HLT.out)
    have hi1 : decide (i < d.p.length) = true := decide_eq_true hip
    have hw := Aside0.mk (show wrap64 ((i : Int) + 1) = ((i + 1 : Nat) : Int) by have := HM1.out; unfold wrap64; omega)
    obtain ⟨ad, cx, rfl, hcl, hfk, hcc, hokb⟩ := Kd.F_get (Kd.F_below H1.out HW.out.1.b) z76 (i : Int) (by omega) (by omega)
    have hgx : d.p.getD ((i : Int)).toNat z76 = d.p[i] := by rw [show ((i : Int)).toNat = i by omega]; simp [List.getD_eq_getElem?_getD, List.getElem?_eq_getElem hip]
    rw [hgx] at hfk
    have hvx := HOK.out.2.2.2.2.2.1 _ (List.getElem_mem hip)
    have htk := Aside0.mk (take_snoc76 d.p i hip)
    generalize d.p[i] = x at *
    obtain ⟨Ax, ccx, rfl, hlx, hFx⟩ := k76_openF hfk
    have hx0 : wr.cell? (ad.add (i * 2)) = some (.int .i64 x.f0) := by have h_ := hcc 0 _ rfl; rw [show ((i : Int)).toNat = i by omega] at h_; exact h_
    have hx1 : wr.cell? ⟨(ad.add (i * 2)).block, (ad.add (i * 2)).off + 1, none⟩ = some (.slice Ax x.f1.length ccx) := by
      have h_ := hcc 1 _ rfl
      rw [show ((i : Int)).toNat = i by omega] at h_
      rw [← add_field _ _ 1 (by omega)]
      exact h_
    have HFX := Aside0.mk (fk_sec hlx hFx)
    have HX0 := Aside0.mk hx0
    have HX1 := Aside0.mk hx1
    have HVX := Aside0.mk hvx
    have hx00 := hvx.1
    have hx01 : x.f0 < (d.s.length : Int) := hvx.2.1
    clear hgx hcl hcc hfk hokb hlx hFx hvx hx0 hx1
    go_upto_region 11 with (fail)
    have HW4 := Aside0.mk HW.out.1.drew
    have HX4 := Aside0.mk (blk_drew HW.out.2)
    have HN4 := Aside0.mk (Kd.N_drew HN.out)
    have HF4 := Aside0.mk (Kd.FK_below HFX.out (below_drew1 (Below.refl wr.heap.size wr)))
    have EX0 := Aside0.mk (show wr.drew.cell? (ad.add (i * 2)) = some (.int .i64 x.f0) from HX0.out)
    have EX1 := Aside0.mk (show wr.drew.cell? ⟨(ad.add (i * 2)).block, (ad.add (i * 2)).off + 1, none⟩ = some (.slice Ax x.f1.length ccx) from HX1.out)
    refine start_ (n := 16) (S := fun w' => w'.cell? ⟨b6, 0, none⟩ = some (.slice (some ⟨g, 0, none⟩) d.s.length cs) ∧ w'.cell? ⟨w.heap.size, 1, none⟩ = some (.slice (some ad) d.p.length c1) ∧ w'.cell? (ad.add (i * 2)) = some (.int .i64 x.f0) ∧ w'.cell? ⟨(ad.add (i * 2)).block, (ad.add (i * 2)).off + 1, none⟩ = some (.slice Ax x.f1.length ccx)) (ds := [15]) #[false, false, false, false, false, false, false, false, false, false, false, false, false, false, false, false] (by kernel_rfl) rfl rfl ⟨(blk_cell HX4.out 0).trans rfl, (blk_cell HW4.out.v1 1).trans rfl, EX0.out, EX1.out⟩ (fun hHeld => ?_)
    generalize wr.drew = w4 at *
    refine pure_ (i := 0) (N := some 44) (v := ?_) (a' := ?_) #[true, false, false, false, false, false, false, false, false, false, false, false, false, false, false, false] rfl rfl (by kernel_rfl) (fun _ _ _ h => h) (Or.inl ⟨by rfl, ?_⟩) ?_ ?_
    rotate_left
    · intro w'
      go_simp
      with_reducible rfl
    rotate_left
    · simp only [Act.put, List.setIfInBounds_toArray, List.set_cons_zero, List.set_cons_succ, i64_w, i32_w]
      rfl
    refine take_ (i := 1) (N := some 45) (v := ?_) (a' := ?_) #[true, true, false, false, false, false, false, false, false, false, false, false, false, false, false, false] rfl rfl (by kernel_rfl) (fun _ _ _ h => h) (Or.inl ⟨by rfl, ?_⟩) hHeld ?_ ?_
    rotate_left
    · rintro w' ⟨s0, s1, s2, s3⟩
      go_simp
      with_reducible rfl
    rotate_left
    · simp only [Act.put, List.setIfInBounds_toArray, List.set_cons_zero, List.set_cons_succ, i64_w, i32_w]
      rfl
    refine pure_ (i := 2) (N := some 46) (v := ?_) (a' := ?_) #[true, true, true, false, false, false, false, false, false, false, false, false, false, false, false, false] rfl rfl (by kernel_rfl) (fun _ _ _ h => h) (Or.inl ⟨by rfl, ?_⟩) ?_ ?_
    rotate_left
    · intro w'
      go_simp
      with_reducible rfl
    rotate_left
    · simp only [Act.put, List.setIfInBounds_toArray, List.set_cons_zero, List.set_cons_succ, i64_w, i32_w]
      rfl
    refine take_ (i := 3) (N := some 47) (v := ?_) (a' := ?_) #[true, true, true, true, false, false, false, false, false, false, false, false, false, false, false, false] rfl rfl (by kernel_rfl) (fun _ _ _ h => h) (Or.inl ⟨by rfl, ?_⟩) hHeld ?_ ?_
    rotate_left
    · rintro w' ⟨s0, s1, s2, s3⟩
      go_simp
      with_reducible rfl
    rotate_left
    · simp only [Act.put, List.setIfInBounds_toArray, List.set_cons_zero, List.set_cons_succ, i64_w, i32_w]
      rfl
    refine pure_ (i := 4) (N := some 48) (v := ?_) (a' := ?_) #[true, true, true, true, true, false, false, false, false, false, false, false, false, false, false, false] rfl rfl (by kernel_rfl) (fun _ _ _ h => h) (Or.inl ⟨by rfl, ?_⟩) ?_ ?_
    rotate_left
    · intro w'
      go_simp
      with_reducible rfl
    rotate_left
    · simp only [Act.put, List.setIfInBounds_toArray, List.set_cons_zero, List.set_cons_succ, i64_w, i32_w]
      rfl
    refine pure_ (i := 5) (N := some 49) (v := ?_) (a' := ?_) #[true, true, true, true, true, true, false, false, false, false, false, false, false, false, false, false] rfl rfl (by kernel_rfl) (fun _ _ _ h => h) (Or.inl ⟨by rfl, ?_⟩) ?_ ?_
    rotate_left
    · intro w'
      go_simp
      with_reducible rfl
    rotate_left
    · simp only [Act.put, List.setIfInBounds_toArray, List.set_cons_zero, List.set_cons_succ, i64_w, i32_w]
      rfl
    refine pure_ (i := 6) (N := some 50) (v := ?_) (a' := ?_) #[true, true, true, true, true, true, true, false, false, false, false, false, false, false, false, false] rfl rfl (by kernel_rfl) (fun _ _ _ h => h) (Or.inl ⟨by rfl, ?_⟩) ?_ ?_
    rotate_left
    · intro w'
      go_simp
      with_reducible rfl
    rotate_left
    · simp only [Act.put, List.setIfInBounds_toArray, List.set_cons_zero, List.set_cons_succ, i64_w, i32_w]
      rfl
    refine take_ (i := 7) (N := some 51) (v := ?_) (a' := ?_) #[true, true, true, true, true, true, true, true, false, false, false, false, false, false, false, false] rfl rfl (by kernel_rfl) (fun _ _ _ h => h) (Or.inl ⟨by rfl, ?_⟩) hHeld ?_ ?_
    rotate_left
    · rintro w' ⟨s0, s1, s2, s3⟩
      go_simp
      with_reducible rfl
    rotate_left
    · simp only [Act.put, List.setIfInBounds_toArray, List.set_cons_zero, List.set_cons_succ, i64_w, i32_w]
      rfl
    refine pure_ (i := 8) (N := some 52) (v := ?_) (a' := ?_) #[true, true, true, true, true, true, true, true, true, false, false, false, false, false, false, false] rfl rfl (by kernel_rfl) (fun _ _ _ h => h) (Or.inl ⟨by rfl, ?_⟩) ?_ ?_
    rotate_left
    · intro w'
      go_simp
      with_reducible rfl
    rotate_left
    · simp only [Act.put, List.setIfInBounds_toArray, List.set_cons_zero, List.set_cons_succ, i64_w, i32_w]
      rfl
    refine take_ (i := 9) (N := some 53) (v := ?_) (a' := ?_) #[true, true, true, true, true, true, true, true, true, true, false, false, false, false, false, false] rfl rfl (by kernel_rfl) (fun _ _ _ h => h) (Or.inl ⟨by rfl, ?_⟩) hHeld ?_ ?_
    rotate_left
    · rintro w' ⟨s0, s1, s2, s3⟩
      go_simp
      with_reducible rfl
    rotate_left
    · simp only [Act.put, List.setIfInBounds_toArray, List.set_cons_zero, List.set_cons_succ, i64_w, i32_w]
      rfl
    refine pure_ (i := 10) (N := some 54) (v := ?_) (a' := ?_) #[true, true, true, true, true, true, true, true, true, true, true, false, false, false, false, false] rfl rfl (by kernel_rfl) (fun _ _ _ h => h) (Or.inl ⟨by rfl, ?_⟩) ?_ ?_
    rotate_left
    · intro w'
      go_simp
      with_reducible rfl
    rotate_left
    · simp only [Act.put, List.setIfInBounds_toArray, List.set_cons_zero, List.set_cons_succ, i64_w, i32_w]
      rfl
    refine pure_ (i := 11) (N := some 55) (v := ?_) (a' := ?_) #[true, true, true, true, true, true, true, true, true, true, true, true, false, false, false, false] rfl rfl (by kernel_rfl) (fun _ _ _ h => h) (Or.inl ⟨by rfl, ?_⟩) ?_ ?_
    rotate_left
    · intro w'
      go_simp
      with_reducible rfl
    rotate_left
    · simp only [Act.put, List.setIfInBounds_toArray, List.set_cons_zero, List.set_cons_succ, i64_w, i32_w]
      rfl
    refine pure_ (i := 12) (N := some 56) (v := ?_) (a' := ?_) #[true, true, true, true, true, true, true, true, true, true, true, true, true, false, false, false] rfl rfl (by kernel_rfl) (fun _ _ _ h => h) (Or.inl ⟨by rfl, ?_⟩) ?_ ?_
    rotate_left
    · intro w'
      go_simp
      with_reducible rfl
    rotate_left
    · simp only [Act.put, List.setIfInBounds_toArray, List.set_cons_zero, List.set_cons_succ, i64_w, i32_w]
      rfl
    refine take_ (i := 13) (N := some 57) (v := ?_) (a' := ?_) #[true, true, true, true, true, true, true, true, true, true, true, true, true, true, false, false] rfl rfl (by kernel_rfl) (fun _ _ _ h => h) (Or.inl ⟨by rfl, ?_⟩) hHeld ?_ ?_
    rotate_left
    · rintro w' ⟨s0, s1, s2, s3⟩
      go_simp
      with_reducible rfl
    rotate_left
    · simp only [Act.put, List.setIfInBounds_toArray, List.set_cons_zero, List.set_cons_succ, i64_w, i32_w]
      rfl
    refine pure_ (i := 14) (N := some 58) (v := ?_) (a' := ?_) #[true, true, true, true, true, true, true, true, true, true, true, true, true, true, true, false] rfl rfl (by kernel_rfl) (fun _ _ _ h => h) (Or.inl ⟨by rfl, ?_⟩) ?_ ?_
    rotate_left
    · intro w'
      go_simp
      with_reducible rfl
    rotate_left
    · simp only [Act.put, List.setIfInBounds_toArray, List.set_cons_zero, List.set_cons_succ, i64_w, i32_w]
      rfl
    refine last_ (i := 15) (N := none) #[true, true, true, true, true, true, true, true, true, true, true, true, true, true, true, true] rfl rfl (by kernel_rfl) (by decide) (fun K hK => ?_)
    obtain ⟨cq, hcl, -, hcc, hfr⟩ := Kd.N_elem HN4.out ([] : List Int) x.f0 HVX.out.1 HVX.out.2.1
    obtain ⟨q, rfl⟩ : ∃ q, cq = [q] := List.length_eq_one_iff.1 hcl
    refine N_store_step (Kd.slice 5 (Kd.int .u8)) (w0 := w) w.heap.size (by rfl) rfl 35 (.tmp 58) (.tmp 57) rfl 35 x.f0 0 (performD d.s (d.p.take i)) x.f1 (.slice Ax x.f1.length ccx) [.slice Ax x.f1.length ccx] [q] (fun k => apartW w k ∧ k ≠ b6) (fun k => k < w.heap.size) rfl ?ho rfl rfl (by kernel_rfl) (by intro q hq; rw [List.mem_singleton.1 hq]; rfl) HN4.out HVX.out.1 HVX.out.2.1 rfl hcc (Nat.le_refl 1) HF4.out (fun k hk => ⟨⟨.inl hk, by have := HB6.out; omega⟩, by have := HGE.out; omega⟩) HW4.out.b ?_
    case ho => exact (Nat.mul_one _).symm
    intro w7 hn7 hb7 hg7
    have N7 := Aside0.mk hn7
    have S7 := Aside0.mk (show WS w w7 #[.slice A0 d.s.length c0, .slice (some ad) d.p.length c1, .int .i64 d.left, .bool d.st] #[.slice none 0 0, .slice none 0 0, .int .i64 0, .bool false] from ⟨hb7, (hg7.block _ (by have := HW4.out.lt; omega) (fun e => apartW.ne1 g HGX.out.1 (Option.some.inj e).symm)).trans HW4.out.v1, (hg7.block _ HW4.out.lt (fun e => apartW.ne2 g HGX.out.1 (Option.some.inj e).symm)).trans HW4.out.v2⟩)
    have X7 := Aside0.mk ((hg7.block _ (blk_lt HX4.out) (fun e => HGX.out.2 (Option.some.inj e).symm)).trans HX4.out)
    clear hn7 hb7 hg7 hcl hcc hfr
    refine hK.out _ _ ?_
    clear hK K
    refine done_ (by kernel_rfl) ?_
    go_wp2
    go_roundg (gk - 1)
    case measure => have := HI.out; omega
    case rel => exact ⟨i + 1, by rw [hw.out], ⟨by have := HI.out; omega⟩, ⟨by rw [htk.out, performD_snoc]; exact N7.out⟩, ⟨S7.out, X7.out⟩⟩
  · skip
    have hi0 : decide ((i : Int) < d.left) = false := decide_eq_false (by have := HL0.out; omega)
    have hie : i = d.left.toNat := by have := HI.out; omega
    subst hie
    have S7 := Aside0.mk HW.out.1
    have X7 := Aside0.mk HW.out.2
    have N7 := HN
    clear HI HN HW hi
    obtain ⟨x, hx⟩ : ∃ x, d.p.getD d.left.toNat z76 = x := ⟨_, rfl⟩
    have HX := Aside0.mk hx
    have HXV := Aside0.mk (HOK.out.2.2.2.2.2.1 x (by rw [← hx, List.getD_eq_getElem?_getD, List.getElem?_eq_getElem HLT.out]; exact List.getElem_mem HLT.out))
    clear hx
    obtain ⟨sec, hsec⟩ : ∃ sec, (performD d.s (d.p.take d.left.toNat)).getD x.f0.toNat [] = sec := ⟨_, rfl⟩
    have HSEC := Aside0.mk hsec
    clear hsec
    obtain ⟨ad, cx, rfl, hcl, hfk, hcc, -⟩ := Kd.F_get (Kd.F_below H1.out S7.out.b) z76 d.left HL0.out (by have := HLT.out; omega)
    rw [HX.out] at hfk
    obtain ⟨Ax, ccx, rfl, hlx, hFx⟩ := k76_openF hfk
    have hx0 : wr.cell? (ad.add (d.left.toNat * 2)) = some (.int .i64 x.f0) := hcc 0 _ rfl
    have hx1 : wr.cell? ⟨(ad.add (d.left.toNat * 2)).block, (ad.add (d.left.toNat * 2)).off + 1, none⟩ = some (.slice Ax x.f1.length ccx) := by
      have h_ := hcc 1 _ rfl
      rw [← add_field _ _ 1 (by omega)]
      exact h_
    have HFX := Aside0.mk hFx
    have HLX := Aside0.mk hlx
    have hl0 := HL0.out
    have hl1 : d.left < (d.p.length : Int) := by have := HLT.out; omega
    clear hcl hcc hfk hlx hFx
    have v1z0 := (blk_cell S7.out.v1 0).trans rfl; have v1f0 := blk_frozen S7.out.v1 0; have v2z0 := (blk_cell S7.out.v2 0).trans rfl; have v2f0 := blk_frozen S7.out.v2 0; have v1z1 := (blk_cell S7.out.v1 1).trans rfl; have v1f1 := blk_frozen S7.out.v1 1; have v2z1 := (blk_cell S7.out.v2 1).trans rfl; have v2f1 := blk_frozen S7.out.v2 1; have v1z2 := (blk_cell S7.out.v1 2).trans rfl; have v1f2 := blk_frozen S7.out.v1 2; have v2z2 := (blk_cell S7.out.v2 2).trans rfl; have v2f2 := blk_frozen S7.out.v2 2; have v1z3 := (blk_cell S7.out.v1 3).trans rfl; have v1f3 := blk_frozen S7.out.v1 3; have v2z3 := (blk_cell S7.out.v2 3).trans rfl; have v2f3 := blk_frozen S7.out.v2 3
    go_upto_region 14 with (fail)
    clear v1z0 v1f0 v2z0 v2f0 v1z1 v1f1 v2z1 v2f1 v1z2 v1f2 v2z2 v2f2 v1z3 v1f3 v2z3 v2f3
    clear hx0 hx1 hl0 hl1 hi0
    have S8 := Aside0.mk (S7.out.alloc (.cells #[.int .i64 x.f0, .slice Ax x.f1.length ccx] 76)).drew
    have N8 := Aside0.mk (Kd.N_drew (Kd.N_bound (Kd.N_alloc N7.out (.cells #[.int .i64 x.f0, .slice Ax x.f1.length ccx] 76))))
    have X8 := Aside0.mk (blk_drew (blk_alloc X7.out (.cells #[.int .i64 x.f0, .slice Ax x.f1.length ccx] 76)))
    have BB := Aside0.mk (blk_drew (blk_new wr (.cells #[.int .i64 x.f0, .slice Ax x.f1.length ccx] 76)))
    have HF8 := Aside0.mk (Kd.F_drew (Kd.F_alloc HFX.out (.cells #[.int .i64 x.f0, .slice Ax x.f1.length ccx] 76)))
    have HB8 := Aside0.mk (show b6 < wr.heap.size from blk_lt X7.out)
    clear S7 N7 X7 HFX
    have hlen := performD_len d.s (d.p.take d.left.toNat)
    obtain ⟨cq, hcl, hfk, hcc, hfr⟩ := Kd.N_elem N8.out ([] : List Int) x.f0 HXV.out.1 HXV.out.2.1
    rw [HSEC.out] at hfk
    obtain ⟨Aq, cqq, rfl, hlq, hFq⟩ := fk_sec_open hfk
    have hq0 : (wr.alloc (.cells #[.int .i64 x.f0, .slice Ax x.f1.length ccx] 76)).drew.cell? ⟨g, x.f0.toNat, none⟩ = some (.slice Aq sec.length cqq) := by have h_ := hcc 0 _ rfl; rw [show x.f0.toNat * (Kd.slice 5 (Kd.int .u8)).sz + 0 = x.f0.toNat from Nat.mul_one _] at h_; exact h_
    have HQ0 := Aside0.mk hq0
    have HFQ := Aside0.mk (Kd.F_bound hFq)
    have HLQ := Aside0.mk hlq
    have HSL := Aside0.mk (show sec.length = 128 from by
      have hm : x.f0.toNat < (performD d.s (d.p.take d.left.toNat)).length := by rw [hlen]; have := HXV.out; omega
      have h_ := HSEC.out
      rw [List.getD_eq_getElem?_getD, List.getElem?_eq_getElem hm] at h_
      rw [← h_]
      exact performD_all d.s (d.p.take d.left.toNat) HOK.out.2.2.2.2.2.2 (fun y hy => (HOK.out.2.2.2.2.2.1 y (List.mem_of_mem_take hy)).2.2) _ (List.getElem_mem hm))
    clear hcl hcc hfk hfr hlq hFq hq0 hlen
    obtain ⟨i5, hi5, hs5⟩ := Option.map_eq_some_iff.1 info5s
    have hc1 : ∀ W : World, (Instr.slice 35 (.slice Ax x.f1.length ccx) none (some (.int .i64 64)) none).run Try.prog W = .ok (.slice Ax 64 ccx) W := cut_to 35 5 .i64 Try.underlying35 hi5 Ax x.f1.length ccx 64 (by decide) (by have := HXV.out.2.2; omega) HLX.out
    obtain ⟨A2, hA2⟩ : ∃ A2, (if cqq = 64 then Aq else Aq.map (·.add (64 * (Kd.int .u8).sz))) = A2 := ⟨_, rfl⟩
    have hc2 : ∀ W : World, (Instr.slice 35 (.slice Aq sec.length cqq) (some (.int .i64 64)) none none).run Try.prog W = .ok (.slice A2 (sec.length - 64) (cqq - 64)) W := by rw [← hA2]; exact cut_from 35 5 .i64 Try.underlying35 hi5 1 hs5 Aq sec.length cqq 64 (by decide) (by have := HSL.out; omega)
    have HF2 := Aside0.mk (show Kd.F (Kd.int .u8) (wr.alloc (.cells #[.int .i64 x.f0, .slice Ax x.f1.length ccx] 76)).drew (fun k => ((apartW w k ∧ k ≠ b6) ∧ k ≠ g) ∧ k < (wr.alloc (.cells #[.int .i64 x.f0, .slice Ax x.f1.length ccx] 76)).drew.heap.size) A2 (sec.length - 64) (sec.drop 64) from by
      have h_ := Kd.F_cut (m := 64) (c := cqq) HFQ.out (by have := HSL.out; omega) HLQ.out
      rw [hA2, List.length_drop] at h_
      exact Kd.F_mono h_ (fun k hk => ⟨⟨hk.1.1.1, hk.1.2⟩, hk.2⟩))
    have HF1 := Aside0.mk (show Kd.F (Kd.int .u8) (wr.alloc (.cells #[.int .i64 x.f0, .slice Ax x.f1.length ccx] 76)).drew (fun k => ((apartW w k ∧ k ≠ b6) ∧ k ≠ g) ∧ k < (wr.alloc (.cells #[.int .i64 x.f0, .slice Ax x.f1.length ccx] 76)).drew.heap.size) Ax 64 (x.f1.take 64) from by
      have h_ := Kd.F_bound (Kd.F_take (m := 64) HF8.out (by have := HXV.out.2.2; omega))
      rw [List.length_take, show min 64 x.f1.length = 64 by have := HXV.out.2.2; omega] at h_
      exact Kd.F_mono h_ (fun k hk => ⟨⟨⟨.inl hk.1, by have := HB6.out; have := hk.1; omega⟩, by have := HGE.out; have := hk.1; omega⟩, hk.2⟩))
    clear hA2 hi5 HFQ HF8
    have HG8 := Aside0.mk (show g < (wr.alloc (.cells #[.int .i64 x.f0, .slice Ax x.f1.length ccx] 76)).drew.heap.size from by have h_ := Kd.N_lt N8.out g (by simp [Value.ownBlock]); exact h_)
    have HB9 := Aside0.mk (show b6 < (wr.alloc (.cells #[.int .i64 x.f0, .slice Ax x.f1.length ccx] 76)).drew.heap.size from blk_lt X8.out)
    have hx00 := HXV.out.1
    have hx01 : x.f0 < (d.s.length : Int) := HXV.out.2.1
    refine start_ (n := 19) (S := fun w' => Below (wr.alloc (.cells #[.int .i64 x.f0, .slice Ax x.f1.length ccx] 76)).drew.heap.size (wr.alloc (.cells #[.int .i64 x.f0, .slice Ax x.f1.length ccx] 76)).drew w') (ds := [18]) #[false, false, false, false, false, false, false, false, false, false, false, false, false, false, false, false, false, false, false] (by kernel_rfl) rfl rfl (Below.refl _ _) (fun hHeld => ?_)
    have B8h := Aside0.mk (show wr.heap.size < (wr.alloc (.cells #[.int .i64 x.f0, .slice Ax x.f1.length ccx] 76)).drew.heap.size from blk_lt BB.out)
    generalize (wr.alloc (.cells #[.int .i64 x.f0, .slice Ax x.f1.length ccx] 76)).drew = w9 at *
    generalize wr.heap.size = b8 at *
    refine pure_ (i := 0) (N := some 65) (v := ?_) (a' := ?_) #[true, false, false, false, false, false, false, false, false, false, false, false, false, false, false, false, false, false, false] rfl rfl (by kernel_rfl) (fun _ _ _ h => h) (Or.inl ⟨by rfl, ?_⟩) ?_ ?_
    rotate_left
    · intro w'
      go_simp
      with_reducible rfl
    rotate_left
    · simp only [Act.put, List.setIfInBounds_toArray, List.set_cons_zero, List.set_cons_succ, i64_w, i32_w]
      rfl
    refine take_ (i := 1) (N := some 66) (v := ?_) (a' := ?_) #[true, true, false, false, false, false, false, false, false, false, false, false, false, false, false, false, false, false, false] rfl rfl (by kernel_rfl) (fun _ _ _ h => h) (Or.inl ⟨by rfl, ?_⟩) hHeld ?_ ?_
    rotate_left
    · rintro w' s0
      have z0 := (blk_cell (blk_below X8.out s0) 0).trans rfl
      go_simp
      with_reducible rfl
    rotate_left
    · simp only [Act.put, List.setIfInBounds_toArray, List.set_cons_zero, List.set_cons_succ, i64_w, i32_w]
      rfl
    refine pure_ (i := 2) (N := some 67) (v := ?_) (a' := ?_) #[true, true, true, false, false, false, false, false, false, false, false, false, false, false, false, false, false, false, false] rfl rfl (by kernel_rfl) (fun _ _ _ h => h) (Or.inl ⟨by rfl, ?_⟩) ?_ ?_
    rotate_left
    · intro w'
      go_simp
      with_reducible rfl
    rotate_left
    · simp only [Act.put, List.setIfInBounds_toArray, List.set_cons_zero, List.set_cons_succ, i64_w, i32_w]
      rfl
    refine take_ (i := 3) (N := some 68) (v := ?_) (a' := ?_) #[true, true, true, true, false, false, false, false, false, false, false, false, false, false, false, false, false, false, false] rfl rfl (by kernel_rfl) (fun _ _ _ h => h) (Or.inl ⟨by rfl, ?_⟩) hHeld ?_ ?_
    rotate_left
    · rintro w' s0
      have z0 := (blk_cell (blk_below BB.out s0) 0).trans rfl
      go_simp
      with_reducible rfl
    rotate_left
    · simp only [Act.put, List.setIfInBounds_toArray, List.set_cons_zero, List.set_cons_succ, i64_w, i32_w]
      rfl
    refine pure_ (i := 5) (N := some 70) (v := ?_) (a' := ?_) #[true, true, true, true, false, true, false, false, false, false, false, false, false, false, false, false, false, false, false] rfl rfl (by kernel_rfl) (fun _ _ _ h => h) (Or.inl ⟨by rfl, ?_⟩) ?_ ?_
    rotate_left
    · intro w'
      go_simp
      with_reducible rfl
    rotate_left
    · simp only [Act.put, List.setIfInBounds_toArray, List.set_cons_zero, List.set_cons_succ, i64_w, i32_w]
      rfl
    refine take_ (i := 6) (N := some 71) (v := ?_) (a' := ?_) #[true, true, true, true, false, true, true, false, false, false, false, false, false, false, false, false, false, false, false] rfl rfl (by kernel_rfl) (fun _ _ _ h => h) (Or.inl ⟨by rfl, ?_⟩) hHeld ?_ ?_
    rotate_left
    · rintro w' s0
      have z0 := (blk_cell (blk_below BB.out s0) 1).trans rfl
      go_simp
      with_reducible rfl
    rotate_left
    · simp only [Act.put, List.setIfInBounds_toArray, List.set_cons_zero, List.set_cons_succ, i64_w, i32_w]
      rfl
    refine pure_ (i := 7) (N := some 72) (v := ?_) (a' := ?_) #[true, true, true, true, false, true, true, true, false, false, false, false, false, false, false, false, false, false, false] rfl rfl (by kernel_rfl) (fun _ _ _ h => h) (Or.inl ⟨by rfl, ?_⟩) ?_ ?_
    rotate_left
    · intro w'
      go_simp
      with_reducible rfl
    rotate_left
    · simp only [Act.put, List.setIfInBounds_toArray, List.set_cons_zero, List.set_cons_succ, i64_w, i32_w]
      rfl
    refine pure_ (i := 9) (N := some 74) (v := ?_) (a' := ?_) #[true, true, true, true, false, true, true, true, false, true, false, false, false, false, false, false, false, false, false] rfl rfl (by kernel_rfl) (fun _ _ _ h => h) (Or.inl ⟨by rfl, ?_⟩) ?_ ?_
    rotate_left
    · intro w'
      go_simp
      with_reducible rfl
    rotate_left
    · simp only [Act.put, List.setIfInBounds_toArray, List.set_cons_zero, List.set_cons_succ, i64_w, i32_w]
      rfl
    refine take_ (i := 10) (N := some 75) (v := ?_) (a' := ?_) #[true, true, true, true, false, true, true, true, false, true, true, false, false, false, false, false, false, false, false] rfl rfl (by kernel_rfl) (fun _ _ _ h => h) (Or.inl ⟨by rfl, ?_⟩) hHeld ?_ ?_
    rotate_left
    · rintro w' s0
      have z0 := (blk_cell (blk_below X8.out s0) 0).trans rfl
      go_simp
      with_reducible rfl
    rotate_left
    · simp only [Act.put, List.setIfInBounds_toArray, List.set_cons_zero, List.set_cons_succ, i64_w, i32_w]
      rfl
    refine pure_ (i := 11) (N := some 76) (v := ?_) (a' := ?_) #[true, true, true, true, false, true, true, true, false, true, true, true, false, false, false, false, false, false, false] rfl rfl (by kernel_rfl) (fun _ _ _ h => h) (Or.inl ⟨by rfl, ?_⟩) ?_ ?_
    rotate_left
    · intro w'
      go_simp
      with_reducible rfl
    rotate_left
    · simp only [Act.put, List.setIfInBounds_toArray, List.set_cons_zero, List.set_cons_succ, i64_w, i32_w]
      rfl
    refine take_ (i := 12) (N := some 77) (v := ?_) (a' := ?_) #[true, true, true, true, false, true, true, true, false, true, true, true, true, false, false, false, false, false, false] rfl rfl (by kernel_rfl) (fun _ _ _ h => h) (Or.inl ⟨by rfl, ?_⟩) hHeld ?_ ?_
    rotate_left
    · rintro w' s0
      have z0 := (blk_cell (blk_below BB.out s0) 0).trans rfl
      go_simp
      with_reducible rfl
    rotate_left
    · simp only [Act.put, List.setIfInBounds_toArray, List.set_cons_zero, List.set_cons_succ, i64_w, i32_w]
      rfl
    refine pure_ (i := 13) (N := some 78) (v := ?_) (a' := ?_) #[true, true, true, true, false, true, true, true, false, true, true, true, true, true, false, false, false, false, false] rfl rfl (by kernel_rfl) (fun _ _ _ h => h) (Or.inl ⟨by rfl, ?_⟩) ?_ ?_
    rotate_left
    · intro w'
      go_simp
      with_reducible rfl
    rotate_left
    · simp only [Act.put, List.setIfInBounds_toArray, List.set_cons_zero, List.set_cons_succ, i64_w, i32_w]
      rfl
    refine take_ (i := 14) (N := some 79) (v := ?_) (a' := ?_) #[true, true, true, true, false, true, true, true, false, true, true, true, true, true, true, false, false, false, false] rfl rfl (by kernel_rfl) (fun _ _ _ h => h) (Or.inl ⟨by rfl, ?_⟩) hHeld ?_ ?_
    rotate_left
    · rintro w' s0
      have z0 := (s0.cell (p := ⟨g, x.f0.toNat, none⟩) HG8.out).trans HQ0.out
      go_simp
      with_reducible rfl
    rotate_left
    · simp only [Act.put, List.setIfInBounds_toArray, List.set_cons_zero, List.set_cons_succ, i64_w, i32_w]
      rfl
    refine pure_ (i := 15) (N := some 80) (v := ?_) (a' := ?_) #[true, true, true, true, false, true, true, true, false, true, true, true, true, true, true, true, false, false, false] rfl rfl (by kernel_rfl) (fun _ _ _ h => h) (Or.inl ⟨by rfl, ?_⟩) ?_ ?_
    rotate_left
    · intro w'
      go_simp
      with_reducible rfl
    rotate_left
    · simp only [Act.put, List.setIfInBounds_toArray, List.set_cons_zero, List.set_cons_succ, i64_w, i32_w]
      rfl
    refine one_ (i := 4) (N := some 69) #[true, true, true, true, true, true, true, true, false, true, true, true, true, true, true, true, false, false, false] rfl rfl (by kernel_rfl) (by decide) (fun K hK => ?_)
    refine value_ (w1 := ?_) (v := ?_) (by rfl) rfl ?_ ?_
    rotate_left 2
    · go_simp
      constructor
      · rfl
      · rfl
    refine hK.out _ _ (below_alloc hHeld _) (fun hHeld => ?_)
    clear hK K
    refine norm_ (a' := ?_) ?_ ?_
    rotate_left
    · show Act.put _ (some 69) _ = _
      simp only [Act.put, List.setIfInBounds_toArray, List.set_cons_zero, List.set_cons_succ, i64_w, i32_w]
      rfl
    refine one_ (i := 8) (N := some 73) #[true, true, true, true, true, true, true, true, true, true, true, true, true, true, true, true, false, false, false] rfl rfl (by kernel_rfl) (by decide) (fun K hK => ?_)
    refine Kd.N_append_rows_step (Kd.int .u8) (w0 := w9) w9.heap.size (by rfl) (.tmp 69) (.tmp 72) 35 5 (.int .u8 0) 1 rfl Try.underlying35 info5 rfl (by decide) (by decide) (.slice (some ⟨w9.heap.size, 0, none⟩) 0 0) [] (x.f1.take 64) Ax 64 ccx (fun k => (apartW w k ∧ k ≠ b6) ∧ k ≠ g) (fun k => ((apartW w k ∧ k ≠ b6) ∧ k ≠ g) ∧ k < w9.heap.size) rfl rfl (N_empty (Kd.int .u8) 5 w9 w9.heap.size (fun k => (apartW w k ∧ k ≠ b6) ∧ k ≠ g) (Nat.le_refl _) (by have := S8.out.lt; have := HB9.out; have := HG8.out; exact ⟨⟨.inr (by omega), by omega⟩, by omega⟩)) (Kd.F_alloc HF1.out _) (fun k hk => ⟨hk.1, by have := hk.2; simp [Value.ownBlock]; omega⟩) (fun k hk => by simp only [World.size_alloc] at hk; have := S8.out.lt; have := HB9.out; have := HG8.out; exact ⟨⟨.inr (by omega), by omega⟩, by omega⟩) (below_alloc (Below.refl _ _) _) (by simp) (by simp) ?_
    intro v1 w10 hn hb hg hat
    rw [List.nil_append] at hn
    obtain ⟨Av, cv, rfl⟩ := Kd.N_slice hn
    have NT := Aside0.mk hn
    have BT := Aside0.mk hb
    clear hn hb hg hat
    refine hK.out _ _ BT.out (fun hHeld => ?_)
    clear hK K
    refine norm_ (a' := ?_) ?_ ?_
    rotate_left
    · show Act.put _ (some 73) _ = _
      simp only [Act.put, List.setIfInBounds_toArray, List.set_cons_zero, List.set_cons_succ, i64_w, i32_w]
      rfl
    refine one_ (i := 16) (N := some 81) #[true, true, true, true, true, true, true, true, true, true, true, true, true, true, true, true, true, false, false] rfl rfl (by kernel_rfl) (by decide) (fun K hK => ?_)
    refine Kd.N_append_rows_step (Kd.int .u8) (w0 := w9) w9.heap.size (by rfl) (.tmp 73) (.tmp 80) 35 5 (.int .u8 0) 1 rfl Try.underlying35 info5 rfl (by decide) (by decide) (.slice Av (x.f1.take 64).length cv) (x.f1.take 64) (sec.drop 64) A2 (sec.length - 64) (cqq - 64) (fun k => (apartW w k ∧ k ≠ b6) ∧ k ≠ g) (fun k => ((apartW w k ∧ k ≠ b6) ∧ k ≠ g) ∧ k < w9.heap.size) rfl rfl NT.out (Kd.F_below HF2.out BT.out) (fun k hk => ⟨hk.1, fun he => by have h_ := Kd.N_base NT.out k he.symm; have := hk.2; omega⟩) (fun k hk => by have hk_ := Nat.le_trans BT.out.size hk; have := S8.out.lt; have := HB9.out; have := HG8.out; exact ⟨⟨.inr (by omega), by omega⟩, by omega⟩) BT.out BT.out.size (by have := HSL.out; have := HXV.out.2.2; simp only [List.length_take]; omega) ?_
    intro v2 w11 hn hb hg hat
    obtain ⟨Ay, cy, rfl⟩ := Kd.N_slice hn
    have NY := Aside0.mk (show Kd.N (Kd.int .u8) 5 w11 w9.heap.size (fun k => (apartW w k ∧ k ≠ b6) ∧ k ≠ g) (.slice Ay (tear sec x.f1).length cy) (tear sec x.f1) from hn)
    have BY := Aside0.mk hb
    have hvy : (x.f1.take 64 ++ sec.drop 64).length = (tear sec x.f1).length := rfl
    rw [hvy]
    clear hn hb hg hat NT BT hvy
    refine hK.out _ _ BY.out (fun hHeld => ?_)
    clear hK K
    refine norm_ (a' := ?_) ?_ ?_
    rotate_left
    · show Act.put _ (some 81) _ = _
      simp only [Act.put, List.setIfInBounds_toArray, List.set_cons_zero, List.set_cons_succ, i64_w, i32_w]
      rfl
    have S9 := Aside0.mk (S8.out.step BY.out)
    have N9 := Aside0.mk (Kd.N_mono (Kd.N_below N8.out BY.out) (fun k hk => hk.1))
    have X9 := Aside0.mk (blk_below X8.out BY.out)
    clear S8 N8 X8 BB HF1 HF2 hc1 hc2 HQ0
    refine pure_ (i := 17) (N := some 82) (v := ?_) (a' := ?_) #[true, true, true, true, true, true, true, true, true, true, true, true, true, true, true, true, true, true, false] rfl rfl (by kernel_rfl) (fun _ _ _ h => h) (Or.inl ⟨by rfl, ?_⟩) ?_ ?_
    rotate_left
    · intro w'
      go_simp
      with_reducible rfl
    rotate_left
    · simp only [Act.put, List.setIfInBounds_toArray, List.set_cons_zero, List.set_cons_succ, i64_w, i32_w]
      rfl
    refine last_ (i := 18) (N := none) #[true, true, true, true, true, true, true, true, true, true, true, true, true, true, true, true, true, true, true] rfl rfl (by kernel_rfl) (by decide) (fun K hK => ?_)
    obtain ⟨cq, hcl, -, hcc, hfr⟩ := Kd.N_elem N9.out ([] : List Int) x.f0 HXV.out.1 HXV.out.2.1
    obtain ⟨q, rfl⟩ : ∃ q, cq = [q] := List.length_eq_one_iff.1 hcl
    refine N_store_step (Kd.slice 5 (Kd.int .u8)) (w0 := w) w.heap.size (by rfl) rfl 35 (.tmp 82) (.tmp 81) rfl 35 x.f0 0 (performD d.s (d.p.take d.left.toNat)) (tear sec x.f1) (.slice Ay (tear sec x.f1).length cy) [.slice Ay (tear sec x.f1).length cy] [q] (fun k => apartW w k ∧ k ≠ b6) (fun k => (apartW w k ∧ k ≠ b6) ∧ k ≠ g) rfl ?ho rfl rfl (by kernel_rfl) (by intro q hq; rw [List.mem_singleton.1 hq]; rfl) N9.out HXV.out.1 HXV.out.2.1 rfl hcc (Nat.le_refl 1) (fk_sec (Kd.N_reads' NY.out).2.1 (Kd.N_F NY.out)) (fun k hk => hk) S9.out.b ?_
    case ho => exact (Nat.mul_one _).symm
    intro w12 hn7 hb7 hg7
    have N12 := Aside0.mk hn7
    have S12 := Aside0.mk (show WS w w12 #[.slice A0 d.s.length c0, .slice (some ad) d.p.length c1, .int .i64 d.left, .bool d.st] #[.slice none 0 0, .slice none 0 0, .int .i64 0, .bool false] from ⟨hb7, (hg7.block _ (by have := S9.out.lt; omega) (fun e => apartW.ne1 g HGX.out.1 (Option.some.inj e).symm)).trans S9.out.v1, (hg7.block _ S9.out.lt (fun e => apartW.ne2 g HGX.out.1 (Option.some.inj e).symm)).trans S9.out.v2⟩)
    have X12 := Aside0.mk ((hg7.block _ (blk_lt X9.out) (fun e => HGX.out.2 (Option.some.inj e).symm)).trans X9.out)
    clear hn7 hb7 hg7 hcl hcc hfr S9 N9 X9 NY
    refine hK.out _ _ ?_
    clear hK K
    refine done_ (by kernel_rfl) ?_
    have bz0 := (blk_cell X12.out 0).trans rfl; have bf0 := blk_frozen X12.out 0; have bz1 := (blk_cell X12.out 1).trans rfl; have bf1 := blk_frozen X12.out 1; have bz2 := (blk_cell X12.out 2).trans rfl; have bf2 := blk_frozen X12.out 2; have bz3 := (blk_cell X12.out 3).trans rfl; have bf3 := blk_frozen X12.out 3
    go_upto_region 17 with (fail)
    have S13 := Aside0.mk (show WS w ((w12.setCell ⟨b6, 2, none⟩ (.int .i64 0)).setCell ⟨b6, 3, none⟩ (.bool true)) #[.slice A0 d.s.length c0, .slice (some ad) d.p.length c1, .int .i64 d.left, .bool d.st] #[.slice none 0 0, .slice none 0 0, .int .i64 0, .bool false] from S12.out.stepB (Below.setCell (p := ⟨b6, 3, none⟩) (Below.setCell (p := ⟨b6, 2, none⟩) (Below.refl b6 w12) (Nat.le_refl _) (.int .i64 0)) (Nat.le_refl _) (.bool true)) HB6.out)
    have N13 := Aside0.mk (Kd.N_far (p := ⟨b6, 3, none⟩) (Kd.N_far (p := ⟨b6, 2, none⟩) N12.out (fun k hk => hk.2) (.int .i64 0)) (fun k hk => hk.2) (.bool true))
    have X13 := Aside0.mk (show ((w12.setCell ⟨b6, 2, none⟩ (.int .i64 0)).setCell ⟨b6, 3, none⟩ (.bool true)).heap[b6]? = some (.cells #[.slice (some ⟨g, 0, none⟩) d.s.length cs, .slice none 0 0, .int .i64 0, .bool true] 25 (0, 0)) from blk_set (blk_set X12.out 2 (.int .i64 0)) 3 (.bool true))
    clear bz0 bz1 bz2 bz3 bf0 bf1 bf2 bf3 S12 N12 X12
    generalize ((w12.setCell ⟨b6, 2, none⟩ (.int .i64 0)).setCell ⟨b6, 3, none⟩ (.bool true)) = w13 at *
    have v1z0 := (blk_cell S13.out.v1 0).trans rfl; have v1f0 := blk_frozen S13.out.v1 0; have v2z0 := (blk_cell S13.out.v2 0).trans rfl; have v2f0 := blk_frozen S13.out.v2 0; have v1z1 := (blk_cell S13.out.v1 1).trans rfl; have v1f1 := blk_frozen S13.out.v1 1; have v2z1 := (blk_cell S13.out.v2 1).trans rfl; have v2f1 := blk_frozen S13.out.v2 1; have v1z2 := (blk_cell S13.out.v1 2).trans rfl; have v1f2 := blk_frozen S13.out.v1 2; have v2z2 := (blk_cell S13.out.v2 2).trans rfl; have v2f2 := blk_frozen S13.out.v2 2; have v1z3 := (blk_cell S13.out.v1 3).trans rfl; have v1f3 := blk_frozen S13.out.v1 3; have v2z3 := (blk_cell S13.out.v2 3).trans rfl; have v2f3 := blk_frozen S13.out.v2 3
    have bz0 := (blk_cell X13.out 0).trans rfl; have bf0 := blk_frozen X13.out 0; have bz1 := (blk_cell X13.out 1).trans rfl; have bf1 := blk_frozen X13.out 1; have bz2 := (blk_cell X13.out 2).trans rfl; have bf2 := blk_frozen X13.out 2; have bz3 := (blk_cell X13.out 3).trans rfl; have bf3 := blk_frozen X13.out 3
    go_wp2
    have E := ((((S13.out.set2 0 (.slice (some ⟨g, 0, none⟩) d.s.length cs)).set2 1 (.slice none 0 0)).set2 2 (.int .i64 0)).set2 3 (.bool true))
    have N14 := (Kd.N_far (p := ⟨w.heap.size + 1, 3, none⟩) (Kd.N_far (p := ⟨w.heap.size + 1, 2, none⟩) (Kd.N_far (p := ⟨w.heap.size + 1, 1, none⟩) (Kd.N_far (p := ⟨w.heap.size + 1, 0, none⟩) N13.out (fun k hk => apartW.ne2 k hk.1) (.slice (some ⟨g, 0, none⟩) d.s.length cs)) (fun k hk => apartW.ne2 k hk.1) (.slice none 0 0)) (fun k hk => apartW.ne2 k hk.1) (.int .i64 0)) (fun k hk => apartW.ne2 k hk.1) (.bool true))
    refine bodyPost_ret (results_ct rfl _ _ (w.heap.size + 1) 25 #[.slice (some ⟨g, 0, none⟩) d.s.length cs, .slice none 0 0, .int .i64 0, .bool true] (0, 0) _ rfl E.v2 hu25 rfl info25') rfl ?_
    refine ⟨⟨_, by rw [HE.out]; rfl, ?_⟩, E.b⟩
    rw [HE.out, HX.out, HSEC.out]
    have hlen : ((performD d.s (d.p.take d.left.toNat)).set x.f0.toNat (tear sec x.f1)).length = d.s.length := by rw [List.length_set, performD_len]
    exact ⟨some ⟨g, 0, none⟩, cs, none, 0, by rw [hlen]; rfl, by rw [hlen]; have h_ := (Kd.N_reads' N14).2.1; omega, Nat.le_refl _, (Kd.N_reads' N14).2.2, Kd.C_nil _ _⟩
theorem refsync_says (v : Value) (d : Dk) (w : World) (h : DiskV w v d) : Calls Try.prog 31 #[v] w (DEnds w (syncD d)) := by
  by_cases hr : runsD d = true
  · by_cases hl : 0 ≤ d.left ∧ d.left < d.p.length
    · exact refsync_tear v d w h hr hl
    · exact refsync_all v d w h hr hl
  · exact refsync_bad v d w h hr
end Go.Proofs.Ytlnmjgkeiljniaa.Q
/- sizarlaw45.DiskSyncSpec, walked. -/
namespace Go.Proofs.Ytlnmjgkeiljniaa.Q
open Go.RowKit Go.Proofs.YtlnmjgkeiljniaaW.PrintWords Go.Proofs.YtlnmjgkeiljniaaW.PrintLast Go.Proofs.YtlnmjgkeiljniaaW.PrintMore
set_option linter.unusedVariables false
set_option linter.unusedSimpArgs false
/-- A call in a plain region, guarded or not. -/
theorem goesG_ {P : Program} {ops : Array Oper} {Q : Exit → Act → World → Prop} {w : World} {rest : List Oper} {oi : Oper} {a : Act} (N : Option Tmp) (hd : oi.dst = N) (hw : Region.wanted oi (yielded ops a.tmps) = true) {f : FuncId} {fn : Func} {as_ : Array Operand} {ts : Array TypeId} (hf : P.funcs[f]? = some fn) (hname : (fn.name == "runtime.NumGoroutine") = false) (hb : fn.body.isSome = true) (args : Array Value)
    (hop : oi.op = .call { callee := .value (.func f), args := as_, argTypes := ts }) (hargs : as_.map a.eval = args)
    (h : Calls P f args w fun e w' => ∃ v, e = .returned v ∧ wpList P ops Q rest (a.put N v) w') : wpList P ops Q (oi :: rest) a w := by
  subst hd
  exact wpList_step fun K hK => goes_ hf hname hb args hw rfl hop hargs (h.mono fun e w' hh => by
    obtain ⟨v, he, hk⟩ := hh
    exact ⟨v, he, hK _ _ hk⟩)
set_option maxHeartbeats 8000000 in
set_option maxRecDepth 100000 in
theorem syncSpec_walk (P0 : Option Addr) (p0 : Nat) (Q0 : Option Addr) (q0 : Nat) (d : Dk) (a : Int) (w : World) (h : DiskV w (.agg #[.slice P0 d.s.length p0, .slice Q0 d.p.length q0, .int .i64 d.left, .bool d.st]) d) : Calls Try.prog 5 #[(.agg #[.slice P0 d.s.length p0, .slice Q0 d.p.length q0, .int .i64 d.left, .bool d.st]), .int .i64 a] w fun e w' => e = .returned (.bool true) ∧ Below w.heap.size w w' := by
  have hu25 := Try.underlying25
  have D0 := Aside0.mk (DiskV.F h)
  have F1_ := Aside0.mk (Below.refl w.heap.size w)
  clear h
  obtain ⟨Dn, En, hn⟩ : ∃ Dn En, Aside0 (syncD d = (Dn, En)) := ⟨_, _, ⟨rfl⟩⟩
  obtain ⟨Un, Gn, hg⟩ : ∃ Un Gn, Aside0 (stopD d a = (Un, Gn)) := ⟨_, _, ⟨rfl⟩⟩
  go_enter Try.func5, Try.ntmps5
  go_upto_region 1 with (fail)
  have F2_ := Aside0.mk (DiskF.below D0.out (below_alloc (Below.refl _ _) (.cells #[.slice P0 d.s.length p0, .slice Q0 d.p.length q0, .int .i64 d.left, .bool d.st] 25)))
  have F3_ := Aside0.mk (below_alloc F1_.out (.cells #[.slice P0 d.s.length p0, .slice Q0 d.p.length q0, .int .i64 d.left, .bool d.st] 25))
  clear D0 F1_
  have F4_ := Aside0.mk (blk_new w (.cells #[.slice P0 d.s.length p0, .slice Q0 d.p.length q0, .int .i64 d.left, .bool d.st] 25))
  generalize w.alloc (.cells #[.slice P0 d.s.length p0, .slice Q0 d.p.length q0, .int .i64 d.left, .bool d.st] 25) = w1 at *
  go_upto_region 3 with (go_at_call 17; (refine (sane_says _).mono ?_); rintro e w2 ⟨rfl, hb⟩; have F5_ := Aside0.mk (DiskF.below F2_.out hb); have F6_ := Aside0.mk (below_step F3_.out hb); have F7_ := Aside0.mk (blk_below F4_.out hb); clear F2_ F3_ F4_; clear hb)
  have y0 := (blk_cell F7_.out 0).trans rfl
  have y1 := (blk_cell F7_.out 1).trans rfl
  have y2 := (blk_cell F7_.out 2).trans rfl
  have y3 := (blk_cell F7_.out 3).trans rfl
  obtain ⟨r, hr⟩ : ∃ r : Bool, Aside0 (∀ w', Below w2.heap.size w2 w' → Calls Try.prog 18 #[(.agg #[.slice P0 d.s.length p0, .slice Q0 d.p.length q0, .int .i64 d.left, .bool d.st])] w' fun e w'' => e = .returned (.bool r) ∧ Below w'.heap.size w' w'') := few_one F5_.out
  cases r with
    | false =>
      go_wp2_with (go_at_call 18; (refine (hr.out _ (Below.refl _ _)).mono ?_); rintro e w3 ⟨rfl, hb⟩; have F8_ := Aside0.mk (DiskF.below F5_.out hb); have F9_ := Aside0.mk (below_step F6_.out hb); have F10_ := Aside0.mk (blk_below F7_.out hb); clear F5_ F6_ F7_; clear hb)
      go_ret
      exact ⟨rfl, F9_.out⟩
    | true =>
      go_upto_region 5 with (go_at_call 18; (refine (hr.out _ (Below.refl _ _)).mono ?_); rintro e w3 ⟨rfl, hb⟩; have F8_ := Aside0.mk (DiskF.below F5_.out hb); have F9_ := Aside0.mk (below_step F6_.out hb); have F10_ := Aside0.mk (blk_below F7_.out hb); clear F5_ F6_ F7_; clear hb)
      clear y0 y1 y2 y3
      have y0 := (blk_cell F10_.out 0).trans rfl
      have y1 := (blk_cell F10_.out 1).trans rfl
      have y2 := (blk_cell F10_.out 2).trans rfl
      have y3 := (blk_cell F10_.out 3).trans rfl
      go_upto_region 6 with (go_at_call 30; (refine ((sync_says _ d _ (DiskF.V F8_.out)).mono (fun e w' h => DE.of h hn.out)).mono ?_); rintro e w4 ⟨⟨P5, p5, Q5, q5, rfl, hd⟩, hb⟩; have F11_ := Aside0.mk (DiskF.below F8_.out hb); have F12_ := Aside0.mk (below_step F9_.out hb); have F13_ := Aside0.mk (blk_below F10_.out hb); clear F8_ F9_ F10_; have F14_ := Aside0.mk (DiskV.F hd); clear hd hb)
      clear y0 y1 y2 y3
      have F15_ := Aside0.mk (DiskF.below F11_.out (below_alloc (Below.refl _ _) (.cells #[.slice P5 Dn.s.length p5, .slice Q5 Dn.p.length q5, .int .i64 Dn.left, .bool Dn.st] 25)))
      have F16_ := Aside0.mk (below_alloc F12_.out (.cells #[.slice P5 Dn.s.length p5, .slice Q5 Dn.p.length q5, .int .i64 Dn.left, .bool Dn.st] 25))
      have F17_ := Aside0.mk (blk_alloc F13_.out (.cells #[.slice P5 Dn.s.length p5, .slice Q5 Dn.p.length q5, .int .i64 Dn.left, .bool Dn.st] 25))
      have F18_ := Aside0.mk (DiskF.below F14_.out (below_alloc (Below.refl _ _) (.cells #[.slice P5 Dn.s.length p5, .slice Q5 Dn.p.length q5, .int .i64 Dn.left, .bool Dn.st] 25)))
      clear F11_ F12_ F13_ F14_
      have F19_ := Aside0.mk (blk_new w4 (.cells #[.slice P5 Dn.s.length p5, .slice Q5 Dn.p.length q5, .int .i64 Dn.left, .bool Dn.st] 25))
      generalize w4.alloc (.cells #[.slice P5 Dn.s.length p5, .slice Q5 Dn.p.length q5, .int .i64 Dn.left, .bool Dn.st] 25) = w5 at *
      generalize w4.heap.size = b5 at *
      have y0 := (blk_cell F17_.out 0).trans rfl
      have y1 := (blk_cell F17_.out 1).trans rfl
      have y2 := (blk_cell F17_.out 2).trans rfl
      have y3 := (blk_cell F17_.out 3).trans rfl
      go_upto_region 7 with (go_at_call 31; (refine ((refsync_says _ d _ (DiskF.V F15_.out)).mono (fun e w' h => DE.of h hn.out)).mono ?_); rintro e w6 ⟨⟨P6, p6, Q6, q6, rfl, hd⟩, hb⟩; have F20_ := Aside0.mk (DiskF.below F15_.out hb); have F21_ := Aside0.mk (below_step F16_.out hb); have F22_ := Aside0.mk (blk_below F17_.out hb); have F23_ := Aside0.mk (DiskF.below F18_.out hb); have F24_ := Aside0.mk (blk_below F19_.out hb); clear F15_ F16_ F17_ F18_ F19_; have F25_ := Aside0.mk (DiskV.F hd); clear hd hb)
      clear y0 y1 y2 y3
      have F26_ := Aside0.mk (DiskF.below F20_.out (below_alloc (Below.refl _ _) (.cells #[.slice P6 Dn.s.length p6, .slice Q6 Dn.p.length q6, .int .i64 Dn.left, .bool Dn.st] 25)))
      have F27_ := Aside0.mk (below_alloc F21_.out (.cells #[.slice P6 Dn.s.length p6, .slice Q6 Dn.p.length q6, .int .i64 Dn.left, .bool Dn.st] 25))
      have F28_ := Aside0.mk (blk_alloc F22_.out (.cells #[.slice P6 Dn.s.length p6, .slice Q6 Dn.p.length q6, .int .i64 Dn.left, .bool Dn.st] 25))
      have F29_ := Aside0.mk (DiskF.below F23_.out (below_alloc (Below.refl _ _) (.cells #[.slice P6 Dn.s.length p6, .slice Q6 Dn.p.length q6, .int .i64 Dn.left, .bool Dn.st] 25)))
      have F30_ := Aside0.mk (blk_alloc F24_.out (.cells #[.slice P6 Dn.s.length p6, .slice Q6 Dn.p.length q6, .int .i64 Dn.left, .bool Dn.st] 25))
      have F31_ := Aside0.mk (DiskF.below F25_.out (below_alloc (Below.refl _ _) (.cells #[.slice P6 Dn.s.length p6, .slice Q6 Dn.p.length q6, .int .i64 Dn.left, .bool Dn.st] 25)))
      clear F20_ F21_ F22_ F23_ F24_ F25_
      have F32_ := Aside0.mk (blk_new w6 (.cells #[.slice P6 Dn.s.length p6, .slice Q6 Dn.p.length q6, .int .i64 Dn.left, .bool Dn.st] 25))
      generalize w6.alloc (.cells #[.slice P6 Dn.s.length p6, .slice Q6 Dn.p.length q6, .int .i64 Dn.left, .bool Dn.st] 25) = w7 at *
      generalize w6.heap.size = b7 at *
      have y0 := (blk_cell F28_.out 0).trans rfl
      have y1 := (blk_cell F28_.out 1).trans rfl
      have y2 := (blk_cell F28_.out 2).trans rfl
      have y3 := (blk_cell F28_.out 3).trans rfl
      go_upto_region 8 with (go_at_call 32; (refine ((stop_says _ d a _ (DiskF.V F26_.out)).mono (fun e w' h => DE.of h hg.out)).mono ?_); rintro e w8 ⟨⟨P7, p7, Q7, q7, rfl, hd⟩, hb⟩; have F33_ := Aside0.mk (DiskF.below F26_.out hb); have F34_ := Aside0.mk (below_step F27_.out hb); have F35_ := Aside0.mk (blk_below F28_.out hb); have F36_ := Aside0.mk (DiskF.below F29_.out hb); have F37_ := Aside0.mk (blk_below F30_.out hb); have F38_ := Aside0.mk (DiskF.below F31_.out hb); have F39_ := Aside0.mk (blk_below F32_.out hb); clear F26_ F27_ F28_ F29_ F30_ F31_ F32_; have F40_ := Aside0.mk (DiskV.F hd); clear hd hb)
      clear y0 y1 y2 y3
      have F41_ := Aside0.mk (DiskF.below F33_.out (below_alloc (Below.refl _ _) (.cells #[.slice P7 Un.s.length p7, .slice Q7 Un.p.length q7, .int .i64 Un.left, .bool Un.st] 25)))
      have F42_ := Aside0.mk (below_alloc F34_.out (.cells #[.slice P7 Un.s.length p7, .slice Q7 Un.p.length q7, .int .i64 Un.left, .bool Un.st] 25))
      have F43_ := Aside0.mk (blk_alloc F35_.out (.cells #[.slice P7 Un.s.length p7, .slice Q7 Un.p.length q7, .int .i64 Un.left, .bool Un.st] 25))
      have F44_ := Aside0.mk (DiskF.below F36_.out (below_alloc (Below.refl _ _) (.cells #[.slice P7 Un.s.length p7, .slice Q7 Un.p.length q7, .int .i64 Un.left, .bool Un.st] 25)))
      have F45_ := Aside0.mk (blk_alloc F37_.out (.cells #[.slice P7 Un.s.length p7, .slice Q7 Un.p.length q7, .int .i64 Un.left, .bool Un.st] 25))
      have F46_ := Aside0.mk (DiskF.below F38_.out (below_alloc (Below.refl _ _) (.cells #[.slice P7 Un.s.length p7, .slice Q7 Un.p.length q7, .int .i64 Un.left, .bool Un.st] 25)))
      have F47_ := Aside0.mk (blk_alloc F39_.out (.cells #[.slice P7 Un.s.length p7, .slice Q7 Un.p.length q7, .int .i64 Un.left, .bool Un.st] 25))
      have F48_ := Aside0.mk (DiskF.below F40_.out (below_alloc (Below.refl _ _) (.cells #[.slice P7 Un.s.length p7, .slice Q7 Un.p.length q7, .int .i64 Un.left, .bool Un.st] 25)))
      clear F33_ F34_ F35_ F36_ F37_ F38_ F39_ F40_
      have F49_ := Aside0.mk (blk_new w8 (.cells #[.slice P7 Un.s.length p7, .slice Q7 Un.p.length q7, .int .i64 Un.left, .bool Un.st] 25))
      generalize w8.alloc (.cells #[.slice P7 Un.s.length p7, .slice Q7 Un.p.length q7, .int .i64 Un.left, .bool Un.st] 25) = w9 at *
      generalize w8.heap.size = b9 at *
      have y0 := (blk_cell F43_.out 0).trans rfl
      have y1 := (blk_cell F43_.out 1).trans rfl
      have y2 := (blk_cell F43_.out 2).trans rfl
      have y3 := (blk_cell F43_.out 3).trans rfl
      go_upto_region 9 with (go_at_call 33; (refine ((refstop_says _ d a _ (DiskF.V F41_.out)).mono (fun e w' h => DE.of h hg.out)).mono ?_); rintro e w10 ⟨⟨P8, p8, Q8, q8, rfl, hd⟩, hb⟩; have F50_ := Aside0.mk (DiskF.below F41_.out hb); have F51_ := Aside0.mk (below_step F42_.out hb); have F52_ := Aside0.mk (blk_below F43_.out hb); have F53_ := Aside0.mk (DiskF.below F44_.out hb); have F54_ := Aside0.mk (blk_below F45_.out hb); have F55_ := Aside0.mk (DiskF.below F46_.out hb); have F56_ := Aside0.mk (blk_below F47_.out hb); have F57_ := Aside0.mk (DiskF.below F48_.out hb); have F58_ := Aside0.mk (blk_below F49_.out hb); clear F41_ F42_ F43_ F44_ F45_ F46_ F47_ F48_ F49_; have F59_ := Aside0.mk (DiskV.F hd); clear hd hb)
      clear y0 y1 y2 y3
      have F60_ := Aside0.mk (DiskF.below F50_.out (below_alloc (Below.refl _ _) (.cells #[.slice P8 Un.s.length p8, .slice Q8 Un.p.length q8, .int .i64 Un.left, .bool Un.st] 25)))
      have F61_ := Aside0.mk (below_alloc F51_.out (.cells #[.slice P8 Un.s.length p8, .slice Q8 Un.p.length q8, .int .i64 Un.left, .bool Un.st] 25))
      have F62_ := Aside0.mk (blk_alloc F52_.out (.cells #[.slice P8 Un.s.length p8, .slice Q8 Un.p.length q8, .int .i64 Un.left, .bool Un.st] 25))
      have F63_ := Aside0.mk (DiskF.below F53_.out (below_alloc (Below.refl _ _) (.cells #[.slice P8 Un.s.length p8, .slice Q8 Un.p.length q8, .int .i64 Un.left, .bool Un.st] 25)))
      have F64_ := Aside0.mk (blk_alloc F54_.out (.cells #[.slice P8 Un.s.length p8, .slice Q8 Un.p.length q8, .int .i64 Un.left, .bool Un.st] 25))
      have F65_ := Aside0.mk (DiskF.below F55_.out (below_alloc (Below.refl _ _) (.cells #[.slice P8 Un.s.length p8, .slice Q8 Un.p.length q8, .int .i64 Un.left, .bool Un.st] 25)))
      have F66_ := Aside0.mk (blk_alloc F56_.out (.cells #[.slice P8 Un.s.length p8, .slice Q8 Un.p.length q8, .int .i64 Un.left, .bool Un.st] 25))
      have F67_ := Aside0.mk (DiskF.below F57_.out (below_alloc (Below.refl _ _) (.cells #[.slice P8 Un.s.length p8, .slice Q8 Un.p.length q8, .int .i64 Un.left, .bool Un.st] 25)))
      have F68_ := Aside0.mk (blk_alloc F58_.out (.cells #[.slice P8 Un.s.length p8, .slice Q8 Un.p.length q8, .int .i64 Un.left, .bool Un.st] 25))
      have F69_ := Aside0.mk (DiskF.below F59_.out (below_alloc (Below.refl _ _) (.cells #[.slice P8 Un.s.length p8, .slice Q8 Un.p.length q8, .int .i64 Un.left, .bool Un.st] 25)))
      clear F50_ F51_ F52_ F53_ F54_ F55_ F56_ F57_ F58_ F59_
      have F70_ := Aside0.mk (blk_new w10 (.cells #[.slice P8 Un.s.length p8, .slice Q8 Un.p.length q8, .int .i64 Un.left, .bool Un.st] 25))
      generalize w10.alloc (.cells #[.slice P8 Un.s.length p8, .slice Q8 Un.p.length q8, .int .i64 Un.left, .bool Un.st] 25) = w11 at *
      generalize w10.heap.size = b11 at *
      have y0 := (blk_cell F64_.out 0).trans rfl
      have y1 := (blk_cell F64_.out 1).trans rfl
      have y2 := (blk_cell F64_.out 2).trans rfl
      have y3 := (blk_cell F64_.out 3).trans rfl
      have z0 := (blk_cell F66_.out 0).trans rfl
      have z1 := (blk_cell F66_.out 1).trans rfl
      have z2 := (blk_cell F66_.out 2).trans rfl
      have z3 := (blk_cell F66_.out 3).trans rfl
      go_wp2_with (first | (go_at_call 21; (refine (same_says _ _ Dn _ (DiskF.V F63_.out) (DiskF.V F65_.out)).mono ?_); rintro e w12 ⟨rfl, hb⟩; have F71_ := Aside0.mk (DiskF.below F60_.out hb); have F72_ := Aside0.mk (below_step F61_.out hb); have F73_ := Aside0.mk (blk_below F62_.out hb); have F74_ := Aside0.mk (DiskF.below F63_.out hb); have F75_ := Aside0.mk (blk_below F64_.out hb); have F76_ := Aside0.mk (DiskF.below F65_.out hb); have F77_ := Aside0.mk (blk_below F66_.out hb); have F78_ := Aside0.mk (DiskF.below F67_.out hb); have F79_ := Aside0.mk (blk_below F68_.out hb); have F80_ := Aside0.mk (DiskF.below F69_.out hb); have F81_ := Aside0.mk (blk_below F70_.out hb); clear F60_ F61_ F62_ F63_ F64_ F65_ F66_ F67_ F68_ F69_ F70_; clear hb; clear y0 y1 y2 y3 z0 z1 z2 z3; have y0 := (blk_cell F79_.out 0).trans rfl; have y1 := (blk_cell F79_.out 1).trans rfl; have y2 := (blk_cell F79_.out 2).trans rfl; have y3 := (blk_cell F79_.out 3).trans rfl; have z0 := (blk_cell F81_.out 0).trans rfl; have z1 := (blk_cell F81_.out 1).trans rfl; have z2 := (blk_cell F81_.out 2).trans rfl; have z3 := (blk_cell F81_.out 3).trans rfl) | ((with_reducible refine gate_callee (f := 21) rfl ?_); refine goesG_ (some 51) rfl (by rfl) Try.func21 (by kernel_rfl) rfl #[(.agg #[.slice P7 Un.s.length p7, .slice Q7 Un.p.length q7, .int .i64 Un.left, .bool Un.st]), (.agg #[.slice P8 Un.s.length p8, .slice Q8 Un.p.length q8, .int .i64 Un.left, .bool Un.st])] rfl (by (try simp only [List.map_toArray, List.map_cons, List.map_nil]); first | done | rfl) ?_; (refine (same_says _ _ Un _ (DiskF.V F78_.out) (DiskF.V F80_.out)).mono ?_); rintro e w13 ⟨rfl, hb⟩; refine ⟨_, rfl, ?_⟩; have F82_ := Aside0.mk (DiskF.below F71_.out hb); have F83_ := Aside0.mk (below_step F72_.out hb); have F84_ := Aside0.mk (blk_below F73_.out hb); have F85_ := Aside0.mk (DiskF.below F74_.out hb); have F86_ := Aside0.mk (blk_below F75_.out hb); have F87_ := Aside0.mk (DiskF.below F76_.out hb); have F88_ := Aside0.mk (blk_below F77_.out hb); have F89_ := Aside0.mk (DiskF.below F78_.out hb); have F90_ := Aside0.mk (blk_below F79_.out hb); have F91_ := Aside0.mk (DiskF.below F80_.out hb); have F92_ := Aside0.mk (blk_below F81_.out hb); clear F71_ F72_ F73_ F74_ F75_ F76_ F77_ F78_ F79_ F80_ F81_; clear hb))
      go_ret
      exact ⟨rfl, F83_.out⟩
theorem syncSpec_says (v : Value) (d : Dk) (a : Int) (w : World) (h : DiskV w v d) : Calls Try.prog 5 #[v, .int .i64 a] w fun e w' => e = .returned (.bool true) ∧ Below w.heap.size w w' := by
  have h3 := h
  obtain ⟨P0, p0, Q0, q0, rfl, -⟩ := h3
  exact syncSpec_walk P0 p0 Q0 q0 d a w h
end Go.Proofs.Ytlnmjgkeiljniaa.Q
