/- The proof's texts, part 6 of 8. -/
import Derived.Test.YtlnmjgkeiljniaaKR4
set_option linter.unusedVariables false
set_option linter.unusedSimpArgs false
/- sizarlaw45.DiskNewSpec, walked. -/
namespace Go.Proofs.Ytlnmjgkeiljniaa.Q
open Go.RowKit Go.Proofs.YtlnmjgkeiljniaaW.PrintWords Go.Proofs.YtlnmjgkeiljniaaW.PrintLast Go.Proofs.YtlnmjgkeiljniaaW.PrintMore
set_option linter.unusedVariables false
set_option linter.unusedSimpArgs false
def DV (w : World) (d : Dk) (e : Ending) (w' : World) : Prop := (∃ A0 c0 A1 c1, e = .returned (.agg #[.slice A0 d.s.length c0, .slice A1 d.p.length c1, .int .i64 d.left, .bool d.st]) ∧ DiskV w' (.agg #[.slice A0 d.s.length c0, .slice A1 d.p.length c1, .int .i64 d.left, .bool d.st]) d) ∧ Below w.heap.size w w'
theorem DV.of {w w' : World} {r d : Dk} {e : Ending} (h : (∃ v', e = .returned v' ∧ DiskV w' v' r) ∧ Below w.heap.size w w') (hr : d = r) : DV w d e w' := by
  subst hr
  obtain ⟨⟨v, he, hd⟩, hb⟩ := h
  have hd2 := hd
  obtain ⟨A0, c0, A1, c1, rfl, -⟩ := hd2
  exact ⟨⟨A0, c0, A1, c1, he, hd⟩, hb⟩
theorem few_one {W0 : World} {ok : Nat → Prop} {P0 Q0 : Option Addr} {p0 q0 : Nat} {d : Dk} (h : DiskF W0 ok (.agg #[.slice P0 d.s.length p0, .slice Q0 d.p.length q0, .int .i64 d.left, .bool d.st]) d) : ∃ r : Bool, Aside0 (∀ w', Below W0.heap.size W0 w' → Calls Try.prog 18 #[(.agg #[.slice P0 d.s.length p0, .slice Q0 d.p.length q0, .int .i64 d.left, .bool d.st])] w' fun e w'' => e = .returned (.bool r) ∧ Below w'.heap.size w' w'') := by
  obtain ⟨A0, c0, A1, c1, he, h0, h1, hC0, hC1⟩ := h.V
  obtain ⟨r, hr⟩ := few_l0 d.s d.p d.left d.st hC0.2.1 hC1.2.1 (d.s.length + d.p.length + 3) 0 0 (by omega) (by omega)
  refine ⟨r, ⟨fun w' hb => ?_⟩⟩
  rw [he]
  exact sizarref45_Few.calls (d.s.length + d.p.length + 3) A0 c0 d.s A1 c1 d.p d.left d.st r w' (Kd.C_below hC0 hb) h0 (Kd.C_below hC1 hb) h1 hr
set_option maxHeartbeats 8000000 in
set_option maxRecDepth 100000 in
theorem newSpec_many (n : Int) (P0 : Option Addr) (p0 : Nat) (Q0 : Option Addr) (q0 : Nat) (d : Dk) (w : World) (h : DiskV w (.agg #[.slice P0 d.s.length p0, .slice Q0 d.p.length q0, .int .i64 d.left, .bool d.st]) d) (h1 : 60 < n ∧ n ≤ 4096) : Calls Try.prog 3 #[.int .i64 n, (.agg #[.slice P0 d.s.length p0, .slice Q0 d.p.length q0, .int .i64 d.left, .bool d.st])] w fun e w' => e = .returned (.bool true) ∧ Below w.heap.size w w' := by
  have hu25 := Try.underlying25
  have D0 := Aside0.mk (DiskV.F h)
  have F1_ := Aside0.mk (Below.refl w.heap.size w)
  clear h
  have q1 : decide ((60 : Int) < n) = true := decide_eq_true h1.1
  have q2 : decide (n ≤ (4096 : Int)) = true := decide_eq_true h1.2
  clear h1
  go_enter Try.func3, Try.ntmps3
  go_upto_region 1 with (fail)
  have F2_ := Aside0.mk (DiskF.below D0.out (below_alloc (Below.refl _ _) (.cells #[.slice P0 d.s.length p0, .slice Q0 d.p.length q0, .int .i64 d.left, .bool d.st] 25)))
  have F3_ := Aside0.mk (below_alloc F1_.out (.cells #[.slice P0 d.s.length p0, .slice Q0 d.p.length q0, .int .i64 d.left, .bool d.st] 25))
  clear D0 F1_
  have F4_ := Aside0.mk (blk_new w (.cells #[.slice P0 d.s.length p0, .slice Q0 d.p.length q0, .int .i64 d.left, .bool d.st] 25))
  generalize w.alloc (.cells #[.slice P0 d.s.length p0, .slice Q0 d.p.length q0, .int .i64 d.left, .bool d.st] 25) = w1 at *
  go_upto_region 3 with (go_at_call 17; (refine (sane_says _).mono ?_); rintro e w2 ⟨rfl, hb⟩; have F5_ := Aside0.mk (DiskF.below F2_.out hb); have F6_ := Aside0.mk (below_step F3_.out hb); have F7_ := Aside0.mk (blk_below F4_.out hb); clear F2_ F3_ F4_; clear hb)
  go_wp2
  go_ret
  exact ⟨rfl, F6_.out⟩
set_option maxHeartbeats 8000000 in
set_option maxRecDepth 100000 in
theorem newSpec_a (n : Int) (P0 : Option Addr) (p0 : Nat) (Q0 : Option Addr) (q0 : Nat) (d : Dk) (w : World) (h : DiskV w (.agg #[.slice P0 d.s.length p0, .slice Q0 d.p.length q0, .int .i64 d.left, .bool d.st]) d) (h1 : ¬ 60 < n) : Calls Try.prog 3 #[.int .i64 n, (.agg #[.slice P0 d.s.length p0, .slice Q0 d.p.length q0, .int .i64 d.left, .bool d.st])] w fun e w' => e = .returned (.bool true) ∧ Below w.heap.size w w' := by
  have hu25 := Try.underlying25
  have D0 := Aside0.mk (DiskV.F h)
  have F1_ := Aside0.mk (Below.refl w.heap.size w)
  clear h
  have q1 : decide ((60 : Int) < n) = false := decide_eq_false h1
  clear h1
  obtain ⟨Dn, En, hn⟩ : ∃ Dn En, Aside0 (newD n = (Dn, En)) := ⟨_, _, ⟨rfl⟩⟩
  obtain ⟨Rd, hR⟩ : ∃ x, Aside0 (x = restartD d) := ⟨_, ⟨rfl⟩⟩
  go_enter Try.func3, Try.ntmps3
  go_upto_region 1 with (fail)
  have F2_ := Aside0.mk (DiskF.below D0.out (below_alloc (Below.refl _ _) (.cells #[.slice P0 d.s.length p0, .slice Q0 d.p.length q0, .int .i64 d.left, .bool d.st] 25)))
  have F3_ := Aside0.mk (below_alloc F1_.out (.cells #[.slice P0 d.s.length p0, .slice Q0 d.p.length q0, .int .i64 d.left, .bool d.st] 25))
  clear D0 F1_
  have F4_ := Aside0.mk (blk_new w (.cells #[.slice P0 d.s.length p0, .slice Q0 d.p.length q0, .int .i64 d.left, .bool d.st] 25))
  generalize w.alloc (.cells #[.slice P0 d.s.length p0, .slice Q0 d.p.length q0, .int .i64 d.left, .bool d.st] 25) = w1 at *
  go_upto_region 3 with (go_at_call 17; (refine (sane_says _).mono ?_); rintro e w2 ⟨rfl, hb⟩; have F5_ := Aside0.mk (DiskF.below F2_.out hb); have F6_ := Aside0.mk (below_step F3_.out hb); have F7_ := Aside0.mk (blk_below F4_.out hb); clear F2_ F3_ F4_; clear hb)
  have y0 := (blk_cell F7_.out 0).trans rfl
  have y1 := (blk_cell F7_.out 1).trans rfl
  have y2 := (blk_cell F7_.out 2).trans rfl
  have y3 := (blk_cell F7_.out 3).trans rfl
  obtain ⟨r, hr⟩ : ∃ r : Bool, Aside0 (∀ w', Below w2.heap.size w2 w' → Calls Try.prog 18 #[(.agg #[.slice P0 d.s.length p0, .slice Q0 d.p.length q0, .int .i64 d.left, .bool d.st])] w' fun e w'' => e = .returned (.bool r) ∧ Below w'.heap.size w' w'') := few_one F5_.out
  cases r with
    | false =>
      go_wp2_with (go_at_call 18; (refine (hr.out _ (Below.refl _ _)).mono ?_); rintro e w3 ⟨rfl, hb⟩; have F8_ := Aside0.mk (DiskF.below F5_.out hb); have F9_ := Aside0.mk (below_step F6_.out hb); have F10_ := Aside0.mk (blk_below F7_.out hb); clear F5_ F6_ F7_; clear hb)
      go_ret
      exact ⟨rfl, F9_.out⟩
    | true =>
      go_upto_region 5 with (go_at_call 18; (refine (hr.out _ (Below.refl _ _)).mono ?_); rintro e w3 ⟨rfl, hb⟩; have F8_ := Aside0.mk (DiskF.below F5_.out hb); have F9_ := Aside0.mk (below_step F6_.out hb); have F10_ := Aside0.mk (blk_below F7_.out hb); clear F5_ F6_ F7_; clear hb)
      clear y0 y1 y2 y3
      go_upto_region 6 with (go_at_call 19; (refine ((new_says n _).mono (fun e w' h => DE.of h hn.out)).mono ?_); rintro e w4 ⟨⟨P1, p1, Q1, q1, rfl, hd⟩, hb⟩; have F11_ := Aside0.mk (DiskF.below F8_.out hb); have F12_ := Aside0.mk (below_step F9_.out hb); have F13_ := Aside0.mk (blk_below F10_.out hb); clear F8_ F9_ F10_; have F14_ := Aside0.mk (DiskV.F hd); clear hd hb)
      have F15_ := Aside0.mk (DiskF.below F11_.out (below_alloc (Below.refl _ _) (.cells #[.slice P1 Dn.s.length p1, .slice Q1 Dn.p.length q1, .int .i64 Dn.left, .bool Dn.st] 25)))
      have F16_ := Aside0.mk (below_alloc F12_.out (.cells #[.slice P1 Dn.s.length p1, .slice Q1 Dn.p.length q1, .int .i64 Dn.left, .bool Dn.st] 25))
      have F17_ := Aside0.mk (blk_alloc F13_.out (.cells #[.slice P1 Dn.s.length p1, .slice Q1 Dn.p.length q1, .int .i64 Dn.left, .bool Dn.st] 25))
      have F18_ := Aside0.mk (DiskF.below F14_.out (below_alloc (Below.refl _ _) (.cells #[.slice P1 Dn.s.length p1, .slice Q1 Dn.p.length q1, .int .i64 Dn.left, .bool Dn.st] 25)))
      clear F11_ F12_ F13_ F14_
      have F19_ := Aside0.mk (blk_new w4 (.cells #[.slice P1 Dn.s.length p1, .slice Q1 Dn.p.length q1, .int .i64 Dn.left, .bool Dn.st] 25))
      generalize w4.alloc (.cells #[.slice P1 Dn.s.length p1, .slice Q1 Dn.p.length q1, .int .i64 Dn.left, .bool Dn.st] 25) = w5 at *
      generalize w4.heap.size = b5 at *
      go_upto_region 7 with (go_at_call 20; (refine ((refnew_says n _).mono (fun e w' h => DE.of h hn.out)).mono ?_); rintro e w6 ⟨⟨P2, p2, Q2, q2, rfl, hd⟩, hb⟩; have F20_ := Aside0.mk (DiskF.below F15_.out hb); have F21_ := Aside0.mk (below_step F16_.out hb); have F22_ := Aside0.mk (blk_below F17_.out hb); have F23_ := Aside0.mk (DiskF.below F18_.out hb); have F24_ := Aside0.mk (blk_below F19_.out hb); clear F15_ F16_ F17_ F18_ F19_; have F25_ := Aside0.mk (DiskV.F hd); clear hd hb)
      have F26_ := Aside0.mk (DiskF.below F20_.out (below_alloc (Below.refl _ _) (.cells #[.slice P2 Dn.s.length p2, .slice Q2 Dn.p.length q2, .int .i64 Dn.left, .bool Dn.st] 25)))
      have F27_ := Aside0.mk (below_alloc F21_.out (.cells #[.slice P2 Dn.s.length p2, .slice Q2 Dn.p.length q2, .int .i64 Dn.left, .bool Dn.st] 25))
      have F28_ := Aside0.mk (blk_alloc F22_.out (.cells #[.slice P2 Dn.s.length p2, .slice Q2 Dn.p.length q2, .int .i64 Dn.left, .bool Dn.st] 25))
      have F29_ := Aside0.mk (DiskF.below F23_.out (below_alloc (Below.refl _ _) (.cells #[.slice P2 Dn.s.length p2, .slice Q2 Dn.p.length q2, .int .i64 Dn.left, .bool Dn.st] 25)))
      have F30_ := Aside0.mk (blk_alloc F24_.out (.cells #[.slice P2 Dn.s.length p2, .slice Q2 Dn.p.length q2, .int .i64 Dn.left, .bool Dn.st] 25))
      have F31_ := Aside0.mk (DiskF.below F25_.out (below_alloc (Below.refl _ _) (.cells #[.slice P2 Dn.s.length p2, .slice Q2 Dn.p.length q2, .int .i64 Dn.left, .bool Dn.st] 25)))
      clear F20_ F21_ F22_ F23_ F24_ F25_
      have F32_ := Aside0.mk (blk_new w6 (.cells #[.slice P2 Dn.s.length p2, .slice Q2 Dn.p.length q2, .int .i64 Dn.left, .bool Dn.st] 25))
      generalize w6.alloc (.cells #[.slice P2 Dn.s.length p2, .slice Q2 Dn.p.length q2, .int .i64 Dn.left, .bool Dn.st] 25) = w7 at *
      generalize w6.heap.size = b7 at *
      refine start_ (n := 23) (S := fun w' => Below w7.drew.heap.size w7.drew w') (ds := []) #[false, false, false, false, false, false, false, false, false, false, false, false, false, false, false, false, false, false, false, false, false, false, false] (by kernel_rfl) rfl rfl (Below.refl _ _) (fun hHeld => ?_)
      have F33_ := Aside0.mk (DiskF.below F26_.out (below_drew1 (Below.refl _ _)))
      have F34_ := Aside0.mk (below_drew1 F27_.out)
      have F35_ := Aside0.mk (blk_drew F28_.out)
      have F36_ := Aside0.mk (DiskF.below F29_.out (below_drew1 (Below.refl _ _)))
      have F37_ := Aside0.mk (blk_drew F30_.out)
      have F38_ := Aside0.mk (DiskF.below F31_.out (below_drew1 (Below.refl _ _)))
      have F39_ := Aside0.mk (blk_drew F32_.out)
      clear F26_ F27_ F28_ F29_ F30_ F31_ F32_
      generalize w7.drew = w8 at *
      have hold_b3 := F35_.out
      have hold_b5 := F37_.out
      have hold_b7 := F39_.out
      refine take_ (i := 0) (N := some 32) (v := ?_) (a' := ?_) #[true, false, false, false, false, false, false, false, false, false, false, false, false, false, false, false, false, false, false, false, false, false, false] rfl rfl (by kernel_rfl) (fun _ _ _ h => h) (Or.inl ⟨by rfl, ?_⟩) hHeld ?_ ?_
      rotate_left
      · rintro w' s0
        have hz0 := blk_below hold_b5 s0
        have yy00 := (blk_cell hz0 0).trans rfl
        have yy01 := (blk_cell hz0 1).trans rfl
        have yy02 := (blk_cell hz0 2).trans rfl
        have yy03 := (blk_cell hz0 3).trans rfl
        go_simp
        with_reducible rfl
      rotate_left
      · simp only [Act.put, List.setIfInBounds_toArray, List.set_cons_zero, List.set_cons_succ, i64_w, i32_w]
        rfl
      refine take_ (i := 1) (N := some 33) (v := ?_) (a' := ?_) #[true, true, false, false, false, false, false, false, false, false, false, false, false, false, false, false, false, false, false, false, false, false, false] rfl rfl (by kernel_rfl) (fun _ _ _ h => h) (Or.inl ⟨by rfl, ?_⟩) hHeld ?_ ?_
      rotate_left
      · rintro w' s0
        have hz0 := blk_below hold_b7 s0
        have yy00 := (blk_cell hz0 0).trans rfl
        have yy01 := (blk_cell hz0 1).trans rfl
        have yy02 := (blk_cell hz0 2).trans rfl
        have yy03 := (blk_cell hz0 3).trans rfl
        go_simp
        with_reducible rfl
      rotate_left
      · simp only [Act.put, List.setIfInBounds_toArray, List.set_cons_zero, List.set_cons_succ, i64_w, i32_w]
        rfl
      refine one_ (i := 2) (N := some 34) #[true, true, true, false, false, false, false, false, false, false, false, false, false, false, false, false, false, false, false, false, false, false, false] rfl rfl (by kernel_rfl) (by decide) (fun K hK => ?_)
      refine goes_ Try.func21 (by kernel_rfl) rfl #[(.agg #[.slice P1 Dn.s.length p1, .slice Q1 Dn.p.length q1, .int .i64 Dn.left, .bool Dn.st]), (.agg #[.slice P2 Dn.s.length p2, .slice Q2 Dn.p.length q2, .int .i64 Dn.left, .bool Dn.st])] (by rfl) rfl rfl (by (try simp only [List.map_toArray, List.map_cons, List.map_nil]); first | done | rfl) ?_
      refine (same_says _ _ Dn _ (DiskF.V F36_.out) (DiskF.V F38_.out)).mono ?_
      rintro e w9 ⟨rfl, hb⟩
      refine ⟨_, rfl, ?_⟩
      refine hK.out _ _ (below_step hHeld hb) (fun hHeld => ?_)
      clear hK K
      refine norm_ (a' := ?_) ?_ ?_
      rotate_left
      · show Act.put _ (some 34) _ = _
        simp only [Act.put, List.setIfInBounds_toArray, List.set_cons_zero, List.set_cons_succ, i64_w, i32_w]
        rfl
      have F40_ := Aside0.mk (DiskF.below F33_.out hb)
      have F41_ := Aside0.mk (below_step F34_.out hb)
      have F42_ := Aside0.mk (blk_below F35_.out hb)
      have F43_ := Aside0.mk (DiskF.below F36_.out hb)
      have F44_ := Aside0.mk (blk_below F37_.out hb)
      have F45_ := Aside0.mk (DiskF.below F38_.out hb)
      have F46_ := Aside0.mk (blk_below F39_.out hb)
      clear F33_ F34_ F35_ F36_ F37_ F38_ F39_
      clear hb
      refine pure_ (i := 3) (N := some 35) (v := ?_) (a' := ?_) #[true, true, true, true, false, false, false, false, false, false, false, false, false, false, false, false, false, false, false, false, false, false, false] rfl rfl (by kernel_rfl) (fun _ _ _ h => h) (Or.inl ⟨by rfl, ?_⟩) ?_ ?_
      rotate_left
      · intro w'
        go_simp
        with_reducible rfl
      rotate_left
      · simp only [Act.put, List.setIfInBounds_toArray, List.set_cons_zero, List.set_cons_succ, i64_w, i32_w]
        rfl
      refine pure_ (i := 4) (N := some 36) (v := ?_) (a' := ?_) #[true, true, true, true, true, false, false, false, false, false, false, false, false, false, false, false, false, false, false, false, false, false, false] rfl rfl (by kernel_rfl) (fun _ _ _ h => h) (Or.inl ⟨by rfl, ?_⟩) ?_ ?_
      rotate_left
      · intro w'
        go_simp
        with_reducible rfl
      rotate_left
      · simp only [Act.put, List.setIfInBounds_toArray, List.set_cons_zero, List.set_cons_succ, i64_w, i32_w]
        rfl
      refine pure_ (i := 5) (N := some 37) (v := ?_) (a' := ?_) #[true, true, true, true, true, true, false, false, false, false, false, false, false, false, false, false, false, false, false, false, false, false, false] rfl rfl (by kernel_rfl) (fun _ _ _ h => h) (Or.inl ⟨by rfl, ?_⟩) ?_ ?_
      rotate_left
      · intro w'
        go_simp
        with_reducible rfl
      rotate_left
      · simp only [Act.put, List.setIfInBounds_toArray, List.set_cons_zero, List.set_cons_succ, i64_w, i32_w]
        rfl
      refine pure_ (i := 6) (N := some 38) (v := ?_) (a' := ?_) #[true, true, true, true, true, true, true, false, false, false, false, false, false, false, false, false, false, false, false, false, false, false, false] rfl rfl (by kernel_rfl) (fun _ _ _ h => h) (Or.inl ⟨by rfl, ?_⟩) ?_ ?_
      rotate_left
      · intro w'
        go_simp
        with_reducible rfl
      rotate_left
      · simp only [Act.put, List.setIfInBounds_toArray, List.set_cons_zero, List.set_cons_succ, i64_w, i32_w]
        rfl
      refine pure_ (i := 7) (N := some 39) (v := ?_) (a' := ?_) #[true, true, true, true, true, true, true, true, false, false, false, false, false, false, false, false, false, false, false, false, false, false, false] rfl rfl (by kernel_rfl) (fun _ _ _ h => h) (Or.inl ⟨by rfl, ?_⟩) ?_ ?_
      rotate_left
      · intro w'
        go_simp
        with_reducible rfl
      rotate_left
      · simp only [Act.put, List.setIfInBounds_toArray, List.set_cons_zero, List.set_cons_succ, i64_w, i32_w]
        rfl
      refine pure_ (i := 8) (N := some 40) (v := ?_) (a' := ?_) #[true, true, true, true, true, true, true, true, true, false, false, false, false, false, false, false, false, false, false, false, false, false, false] rfl rfl (by kernel_rfl) (fun _ _ _ h => h) (Or.inl ⟨by rfl, ?_⟩) ?_ ?_
      rotate_left
      · intro w'
        go_simp
        with_reducible rfl
      rotate_left
      · simp only [Act.put, List.setIfInBounds_toArray, List.set_cons_zero, List.set_cons_succ, i64_w, i32_w]
        rfl
      refine take_ (i := 9) (N := some 41) (v := ?_) (a' := ?_) #[true, true, true, true, true, true, true, true, true, true, false, false, false, false, false, false, false, false, false, false, false, false, false] rfl rfl (by kernel_rfl) (fun _ _ _ h => h) (Or.inl ⟨by rfl, ?_⟩) hHeld ?_ ?_
      rotate_left
      · rintro w' s0
        have hz0 := blk_below hold_b3 s0
        have yy00 := (blk_cell hz0 0).trans rfl
        have yy01 := (blk_cell hz0 1).trans rfl
        have yy02 := (blk_cell hz0 2).trans rfl
        have yy03 := (blk_cell hz0 3).trans rfl
        go_simp
        with_reducible rfl
      rotate_left
      · simp only [Act.put, List.setIfInBounds_toArray, List.set_cons_zero, List.set_cons_succ, i64_w, i32_w]
        rfl
      refine take_ (i := 11) (N := some 43) (v := ?_) (a' := ?_) #[true, true, true, true, true, true, true, true, true, true, false, true, false, false, false, false, false, false, false, false, false, false, false] rfl rfl (by kernel_rfl) (fun _ _ _ h => h) (Or.inl ⟨by rfl, ?_⟩) hHeld ?_ ?_
      rotate_left
      · rintro w' s0
        have hz0 := blk_below hold_b3 s0
        have yy00 := (blk_cell hz0 0).trans rfl
        have yy01 := (blk_cell hz0 1).trans rfl
        have yy02 := (blk_cell hz0 2).trans rfl
        have yy03 := (blk_cell hz0 3).trans rfl
        go_simp
        with_reducible rfl
      rotate_left
      · simp only [Act.put, List.setIfInBounds_toArray, List.set_cons_zero, List.set_cons_succ, i64_w, i32_w]
        rfl
      refine one_ (i := 10) (N := some 42) #[true, true, true, true, true, true, true, true, true, true, true, true, false, false, false, false, false, false, false, false, false, false, false] rfl rfl (by kernel_rfl) (by decide) (fun K hK => ?_)
      refine goes_ Try.func22 (by kernel_rfl) rfl #[(.agg #[.slice P0 d.s.length p0, .slice Q0 d.p.length q0, .int .i64 d.left, .bool d.st])] (by rfl) rfl rfl (by (try simp only [List.map_toArray, List.map_cons, List.map_nil]); first | done | rfl) ?_
      refine (check_says _ d _ (DiskF.V F40_.out)).mono ?_
      rintro e w10 ⟨rfl, hb⟩
      refine ⟨_, rfl, ?_⟩
      refine hK.out _ _ (below_step hHeld hb) (fun hHeld => ?_)
      clear hK K
      refine norm_ (a' := ?_) ?_ ?_
      rotate_left
      · show Act.put _ (some 42) _ = _
        simp only [Act.put, List.setIfInBounds_toArray, List.set_cons_zero, List.set_cons_succ, i64_w, i32_w]
        rfl
      have F47_ := Aside0.mk (DiskF.below F40_.out hb)
      have F48_ := Aside0.mk (below_step F41_.out hb)
      have F49_ := Aside0.mk (blk_below F42_.out hb)
      have F50_ := Aside0.mk (DiskF.below F43_.out hb)
      have F51_ := Aside0.mk (blk_below F44_.out hb)
      have F52_ := Aside0.mk (DiskF.below F45_.out hb)
      have F53_ := Aside0.mk (blk_below F46_.out hb)
      clear F40_ F41_ F42_ F43_ F44_ F45_ F46_
      clear hb
      refine one_ (i := 12) (N := some 44) #[true, true, true, true, true, true, true, true, true, true, true, true, true, false, false, false, false, false, false, false, false, false, false] rfl rfl (by kernel_rfl) (by decide) (fun K hK => ?_)
      refine goes_ Try.func23 (by kernel_rfl) rfl #[(.agg #[.slice P0 d.s.length p0, .slice Q0 d.p.length q0, .int .i64 d.left, .bool d.st])] (by rfl) rfl rfl (by (try simp only [List.map_toArray, List.map_cons, List.map_nil]); first | done | rfl) ?_
      refine (refcheck_says _ d _ (DiskF.V F47_.out)).mono ?_
      rintro e w11 ⟨rfl, hb⟩
      refine ⟨_, rfl, ?_⟩
      refine hK.out _ _ (below_step hHeld hb) (fun hHeld => ?_)
      clear hK K
      refine norm_ (a' := ?_) ?_ ?_
      rotate_left
      · show Act.put _ (some 44) _ = _
        simp only [Act.put, List.setIfInBounds_toArray, List.set_cons_zero, List.set_cons_succ, i64_w, i32_w]
        rfl
      have F54_ := Aside0.mk (DiskF.below F47_.out hb)
      have F55_ := Aside0.mk (below_step F48_.out hb)
      have F56_ := Aside0.mk (blk_below F49_.out hb)
      have F57_ := Aside0.mk (DiskF.below F50_.out hb)
      have F58_ := Aside0.mk (blk_below F51_.out hb)
      have F59_ := Aside0.mk (DiskF.below F52_.out hb)
      have F60_ := Aside0.mk (blk_below F53_.out hb)
      clear F47_ F48_ F49_ F50_ F51_ F52_ F53_
      clear hb
      refine pure_ (i := 13) (N := some 45) (v := ?_) (a' := ?_) #[true, true, true, true, true, true, true, true, true, true, true, true, true, true, false, false, false, false, false, false, false, false, false] rfl rfl (by kernel_rfl) (fun _ _ _ h => h) (Or.inl ⟨by rfl, ?_⟩) ?_ ?_
      rotate_left
      · intro w'
        go_simp
        with_reducible rfl
      rotate_left
      · simp only [Act.put, List.setIfInBounds_toArray, List.set_cons_zero, List.set_cons_succ, i64_w, i32_w]
        rfl
      refine pure_ (i := 14) (N := some 46) (v := ?_) (a' := ?_) #[true, true, true, true, true, true, true, true, true, true, true, true, true, true, true, false, false, false, false, false, false, false, false] rfl rfl (by kernel_rfl) (fun _ _ _ h => h) (Or.inl ⟨by rfl, ?_⟩) ?_ ?_
      rotate_left
      · intro w'
        go_simp
        with_reducible rfl
      rotate_left
      · simp only [Act.put, List.setIfInBounds_toArray, List.set_cons_zero, List.set_cons_succ, i64_w, i32_w]
        rfl
      refine pure_ (i := 15) (N := some 47) (v := ?_) (a' := ?_) #[true, true, true, true, true, true, true, true, true, true, true, true, true, true, true, true, false, false, false, false, false, false, false] rfl rfl (by kernel_rfl) (fun _ _ _ h => h) (Or.inl ⟨by rfl, ?_⟩) ?_ ?_
      rotate_left
      · intro w'
        go_simp
        with_reducible rfl
      rotate_left
      · simp only [Act.put, List.setIfInBounds_toArray, List.set_cons_zero, List.set_cons_succ, i64_w, i32_w]
        rfl
      refine take_ (i := 16) (N := some 48) (v := ?_) (a' := ?_) #[true, true, true, true, true, true, true, true, true, true, true, true, true, true, true, true, true, false, false, false, false, false, false] rfl rfl (by kernel_rfl) (fun _ _ _ h => h) (Or.inl ⟨by rfl, ?_⟩) hHeld ?_ ?_
      rotate_left
      · rintro w' s0
        have hz0 := blk_below hold_b3 s0
        have yy00 := (blk_cell hz0 0).trans rfl
        have yy01 := (blk_cell hz0 1).trans rfl
        have yy02 := (blk_cell hz0 2).trans rfl
        have yy03 := (blk_cell hz0 3).trans rfl
        go_simp
        with_reducible rfl
      rotate_left
      · simp only [Act.put, List.setIfInBounds_toArray, List.set_cons_zero, List.set_cons_succ, i64_w, i32_w]
        rfl
      refine take_ (i := 18) (N := some 50) (v := ?_) (a' := ?_) #[true, true, true, true, true, true, true, true, true, true, true, true, true, true, true, true, true, false, true, false, false, false, false] rfl rfl (by kernel_rfl) (fun _ _ _ h => h) (Or.inl ⟨by rfl, ?_⟩) hHeld ?_ ?_
      rotate_left
      · rintro w' s0
        have hz0 := blk_below hold_b3 s0
        have yy00 := (blk_cell hz0 0).trans rfl
        have yy01 := (blk_cell hz0 1).trans rfl
        have yy02 := (blk_cell hz0 2).trans rfl
        have yy03 := (blk_cell hz0 3).trans rfl
        go_simp
        with_reducible rfl
      rotate_left
      · simp only [Act.put, List.setIfInBounds_toArray, List.set_cons_zero, List.set_cons_succ, i64_w, i32_w]
        rfl
      refine one_ (i := 17) (N := some 49) #[true, true, true, true, true, true, true, true, true, true, true, true, true, true, true, true, true, true, true, false, false, false, false] rfl rfl (by kernel_rfl) (by decide) (fun K hK => ?_)
      refine goes_ Try.func24 (by kernel_rfl) rfl #[(.agg #[.slice P0 d.s.length p0, .slice Q0 d.p.length q0, .int .i64 d.left, .bool d.st])] (by rfl) rfl rfl (by (try simp only [List.map_toArray, List.map_cons, List.map_nil]); first | done | rfl) ?_
      refine ((restart_says _ d _ (DiskF.V F54_.out)).mono (fun e w' h => DV.of h hR.out)).mono ?_
      rintro e w12 ⟨⟨P3, p3, Q3, q3, rfl, hd⟩, hb⟩
      refine ⟨_, rfl, ?_⟩
      refine hK.out _ _ (below_step hHeld hb) (fun hHeld => ?_)
      clear hK K
      refine norm_ (a' := ?_) ?_ ?_
      rotate_left
      · show Act.put _ (some 49) _ = _
        simp only [Act.put, List.setIfInBounds_toArray, List.set_cons_zero, List.set_cons_succ, i64_w, i32_w]
        rfl
      have F61_ := Aside0.mk (DiskF.below F54_.out hb)
      have F62_ := Aside0.mk (below_step F55_.out hb)
      have F63_ := Aside0.mk (blk_below F56_.out hb)
      have F64_ := Aside0.mk (DiskF.below F57_.out hb)
      have F65_ := Aside0.mk (blk_below F58_.out hb)
      have F66_ := Aside0.mk (DiskF.below F59_.out hb)
      have F67_ := Aside0.mk (blk_below F60_.out hb)
      clear F54_ F55_ F56_ F57_ F58_ F59_ F60_
      have F68_ := Aside0.mk (DiskV.F hd)
      clear hb
      refine one_ (i := 19) (N := some 51) #[true, true, true, true, true, true, true, true, true, true, true, true, true, true, true, true, true, true, true, true, false, false, false] rfl rfl (by kernel_rfl) (by decide) (fun K hK => ?_)
      refine goes_ Try.func25 (by kernel_rfl) rfl #[(.agg #[.slice P0 d.s.length p0, .slice Q0 d.p.length q0, .int .i64 d.left, .bool d.st])] (by rfl) rfl rfl (by (try simp only [List.map_toArray, List.map_cons, List.map_nil]); first | done | rfl) ?_
      refine ((refrestart_says _ d _ (DiskF.V F61_.out)).mono (fun e w' h => DV.of h hR.out)).mono ?_
      rintro e w13 ⟨⟨P4, p4, Q4, q4, rfl, hd⟩, hb⟩
      refine ⟨_, rfl, ?_⟩
      refine hK.out _ _ (below_step hHeld hb) (fun hHeld => ?_)
      clear hK K
      refine norm_ (a' := ?_) ?_ ?_
      rotate_left
      · show Act.put _ (some 51) _ = _
        simp only [Act.put, List.setIfInBounds_toArray, List.set_cons_zero, List.set_cons_succ, i64_w, i32_w]
        rfl
      have F69_ := Aside0.mk (DiskF.below F61_.out hb)
      have F70_ := Aside0.mk (below_step F62_.out hb)
      have F71_ := Aside0.mk (blk_below F63_.out hb)
      have F72_ := Aside0.mk (DiskF.below F64_.out hb)
      have F73_ := Aside0.mk (blk_below F65_.out hb)
      have F74_ := Aside0.mk (DiskF.below F66_.out hb)
      have F75_ := Aside0.mk (blk_below F67_.out hb)
      have F76_ := Aside0.mk (DiskF.below F68_.out hb)
      clear F61_ F62_ F63_ F64_ F65_ F66_ F67_ F68_
      have F77_ := Aside0.mk (DiskV.F hd)
      clear hb
      refine one_ (i := 20) (N := some 52) #[true, true, true, true, true, true, true, true, true, true, true, true, true, true, true, true, true, true, true, true, true, false, false] rfl rfl (by kernel_rfl) (by decide) (fun K hK => ?_)
      refine goes_ Try.func21 (by kernel_rfl) rfl #[(.agg #[.slice P3 Rd.s.length p3, .slice Q3 Rd.p.length q3, .int .i64 Rd.left, .bool Rd.st]), (.agg #[.slice P4 Rd.s.length p4, .slice Q4 Rd.p.length q4, .int .i64 Rd.left, .bool Rd.st])] (by rfl) rfl rfl (by (try simp only [List.map_toArray, List.map_cons, List.map_nil]); first | done | rfl) ?_
      refine (same_says _ _ Rd _ (DiskF.V F76_.out) (DiskF.V F77_.out)).mono ?_
      rintro e w14 ⟨rfl, hb⟩
      refine ⟨_, rfl, ?_⟩
      refine hK.out _ _ (below_step hHeld hb) (fun hHeld => ?_)
      clear hK K
      refine norm_ (a' := ?_) ?_ ?_
      rotate_left
      · show Act.put _ (some 52) _ = _
        simp only [Act.put, List.setIfInBounds_toArray, List.set_cons_zero, List.set_cons_succ, i64_w, i32_w]
        rfl
      have F78_ := Aside0.mk (DiskF.below F69_.out hb)
      have F79_ := Aside0.mk (below_step F70_.out hb)
      have F80_ := Aside0.mk (blk_below F71_.out hb)
      have F81_ := Aside0.mk (DiskF.below F72_.out hb)
      have F82_ := Aside0.mk (blk_below F73_.out hb)
      have F83_ := Aside0.mk (DiskF.below F74_.out hb)
      have F84_ := Aside0.mk (blk_below F75_.out hb)
      have F85_ := Aside0.mk (DiskF.below F76_.out hb)
      have F86_ := Aside0.mk (DiskF.below F77_.out hb)
      clear F69_ F70_ F71_ F72_ F73_ F74_ F75_ F76_ F77_
      clear hb
      refine pure_ (i := 21) (N := some 53) (v := ?_) (a' := ?_) #[true, true, true, true, true, true, true, true, true, true, true, true, true, true, true, true, true, true, true, true, true, true, false] rfl rfl (by kernel_rfl) (fun _ _ _ h => h) (Or.inl ⟨by rfl, ?_⟩) ?_ ?_
      rotate_left
      · intro w'
        go_simp
        with_reducible rfl
      rotate_left
      · simp only [Act.put, List.setIfInBounds_toArray, List.set_cons_zero, List.set_cons_succ, i64_w, i32_w]
        rfl
      refine pure_ (i := 22) (N := some 4) (v := ?_) (a' := ?_) #[true, true, true, true, true, true, true, true, true, true, true, true, true, true, true, true, true, true, true, true, true, true, true] rfl rfl (by kernel_rfl) (fun _ _ _ h => h) (Or.inl ⟨by rfl, ?_⟩) ?_ ?_
      rotate_left
      · intro w'
        go_simp
        with_reducible rfl
      rotate_left
      · simp only [Act.put, List.setIfInBounds_toArray, List.set_cons_zero, List.set_cons_succ, i64_w, i32_w]
        rfl
      refine done_ (by kernel_rfl) ?_
      go_wp2
      go_ret
      exact ⟨rfl, F79_.out⟩
set_option maxHeartbeats 8000000 in
set_option maxRecDepth 100000 in
theorem newSpec_b (n : Int) (P0 : Option Addr) (p0 : Nat) (Q0 : Option Addr) (q0 : Nat) (d : Dk) (w : World) (h : DiskV w (.agg #[.slice P0 d.s.length p0, .slice Q0 d.p.length q0, .int .i64 d.left, .bool d.st]) d) (h1 : 60 < n) (h2 : ¬ n ≤ 4096) : Calls Try.prog 3 #[.int .i64 n, (.agg #[.slice P0 d.s.length p0, .slice Q0 d.p.length q0, .int .i64 d.left, .bool d.st])] w fun e w' => e = .returned (.bool true) ∧ Below w.heap.size w w' := by
  have hu25 := Try.underlying25
  have D0 := Aside0.mk (DiskV.F h)
  have F1_ := Aside0.mk (Below.refl w.heap.size w)
  clear h
  have q1 : decide ((60 : Int) < n) = true := decide_eq_true h1
  have q2 : decide (n ≤ (4096 : Int)) = false := decide_eq_false h2
  clear h1 h2
  obtain ⟨Dn, En, hn⟩ : ∃ Dn En, Aside0 (newD n = (Dn, En)) := ⟨_, _, ⟨rfl⟩⟩
  obtain ⟨Rd, hR⟩ : ∃ x, Aside0 (x = restartD d) := ⟨_, ⟨rfl⟩⟩
  go_enter Try.func3, Try.ntmps3
  go_upto_region 1 with (fail)
  have F2_ := Aside0.mk (DiskF.below D0.out (below_alloc (Below.refl _ _) (.cells #[.slice P0 d.s.length p0, .slice Q0 d.p.length q0, .int .i64 d.left, .bool d.st] 25)))
  have F3_ := Aside0.mk (below_alloc F1_.out (.cells #[.slice P0 d.s.length p0, .slice Q0 d.p.length q0, .int .i64 d.left, .bool d.st] 25))
  clear D0 F1_
  have F4_ := Aside0.mk (blk_new w (.cells #[.slice P0 d.s.length p0, .slice Q0 d.p.length q0, .int .i64 d.left, .bool d.st] 25))
  generalize w.alloc (.cells #[.slice P0 d.s.length p0, .slice Q0 d.p.length q0, .int .i64 d.left, .bool d.st] 25) = w1 at *
  go_upto_region 3 with (go_at_call 17; (refine (sane_says _).mono ?_); rintro e w2 ⟨rfl, hb⟩; have F5_ := Aside0.mk (DiskF.below F2_.out hb); have F6_ := Aside0.mk (below_step F3_.out hb); have F7_ := Aside0.mk (blk_below F4_.out hb); clear F2_ F3_ F4_; clear hb)
  have y0 := (blk_cell F7_.out 0).trans rfl
  have y1 := (blk_cell F7_.out 1).trans rfl
  have y2 := (blk_cell F7_.out 2).trans rfl
  have y3 := (blk_cell F7_.out 3).trans rfl
  obtain ⟨r, hr⟩ : ∃ r : Bool, Aside0 (∀ w', Below w2.heap.size w2 w' → Calls Try.prog 18 #[(.agg #[.slice P0 d.s.length p0, .slice Q0 d.p.length q0, .int .i64 d.left, .bool d.st])] w' fun e w'' => e = .returned (.bool r) ∧ Below w'.heap.size w' w'') := few_one F5_.out
  cases r with
    | false =>
      go_wp2_with (go_at_call 18; (refine (hr.out _ (Below.refl _ _)).mono ?_); rintro e w3 ⟨rfl, hb⟩; have F8_ := Aside0.mk (DiskF.below F5_.out hb); have F9_ := Aside0.mk (below_step F6_.out hb); have F10_ := Aside0.mk (blk_below F7_.out hb); clear F5_ F6_ F7_; clear hb)
      go_ret
      exact ⟨rfl, F9_.out⟩
    | true =>
      go_upto_region 5 with (go_at_call 18; (refine (hr.out _ (Below.refl _ _)).mono ?_); rintro e w3 ⟨rfl, hb⟩; have F8_ := Aside0.mk (DiskF.below F5_.out hb); have F9_ := Aside0.mk (below_step F6_.out hb); have F10_ := Aside0.mk (blk_below F7_.out hb); clear F5_ F6_ F7_; clear hb)
      clear y0 y1 y2 y3
      go_upto_region 6 with (go_at_call 19; (refine ((new_says n _).mono (fun e w' h => DE.of h hn.out)).mono ?_); rintro e w4 ⟨⟨P1, p1, Q1, q1, rfl, hd⟩, hb⟩; have F11_ := Aside0.mk (DiskF.below F8_.out hb); have F12_ := Aside0.mk (below_step F9_.out hb); have F13_ := Aside0.mk (blk_below F10_.out hb); clear F8_ F9_ F10_; have F14_ := Aside0.mk (DiskV.F hd); clear hd hb)
      have F15_ := Aside0.mk (DiskF.below F11_.out (below_alloc (Below.refl _ _) (.cells #[.slice P1 Dn.s.length p1, .slice Q1 Dn.p.length q1, .int .i64 Dn.left, .bool Dn.st] 25)))
      have F16_ := Aside0.mk (below_alloc F12_.out (.cells #[.slice P1 Dn.s.length p1, .slice Q1 Dn.p.length q1, .int .i64 Dn.left, .bool Dn.st] 25))
      have F17_ := Aside0.mk (blk_alloc F13_.out (.cells #[.slice P1 Dn.s.length p1, .slice Q1 Dn.p.length q1, .int .i64 Dn.left, .bool Dn.st] 25))
      have F18_ := Aside0.mk (DiskF.below F14_.out (below_alloc (Below.refl _ _) (.cells #[.slice P1 Dn.s.length p1, .slice Q1 Dn.p.length q1, .int .i64 Dn.left, .bool Dn.st] 25)))
      clear F11_ F12_ F13_ F14_
      have F19_ := Aside0.mk (blk_new w4 (.cells #[.slice P1 Dn.s.length p1, .slice Q1 Dn.p.length q1, .int .i64 Dn.left, .bool Dn.st] 25))
      generalize w4.alloc (.cells #[.slice P1 Dn.s.length p1, .slice Q1 Dn.p.length q1, .int .i64 Dn.left, .bool Dn.st] 25) = w5 at *
      generalize w4.heap.size = b5 at *
      go_upto_region 7 with (go_at_call 20; (refine ((refnew_says n _).mono (fun e w' h => DE.of h hn.out)).mono ?_); rintro e w6 ⟨⟨P2, p2, Q2, q2, rfl, hd⟩, hb⟩; have F20_ := Aside0.mk (DiskF.below F15_.out hb); have F21_ := Aside0.mk (below_step F16_.out hb); have F22_ := Aside0.mk (blk_below F17_.out hb); have F23_ := Aside0.mk (DiskF.below F18_.out hb); have F24_ := Aside0.mk (blk_below F19_.out hb); clear F15_ F16_ F17_ F18_ F19_; have F25_ := Aside0.mk (DiskV.F hd); clear hd hb)
      have F26_ := Aside0.mk (DiskF.below F20_.out (below_alloc (Below.refl _ _) (.cells #[.slice P2 Dn.s.length p2, .slice Q2 Dn.p.length q2, .int .i64 Dn.left, .bool Dn.st] 25)))
      have F27_ := Aside0.mk (below_alloc F21_.out (.cells #[.slice P2 Dn.s.length p2, .slice Q2 Dn.p.length q2, .int .i64 Dn.left, .bool Dn.st] 25))
      have F28_ := Aside0.mk (blk_alloc F22_.out (.cells #[.slice P2 Dn.s.length p2, .slice Q2 Dn.p.length q2, .int .i64 Dn.left, .bool Dn.st] 25))
      have F29_ := Aside0.mk (DiskF.below F23_.out (below_alloc (Below.refl _ _) (.cells #[.slice P2 Dn.s.length p2, .slice Q2 Dn.p.length q2, .int .i64 Dn.left, .bool Dn.st] 25)))
      have F30_ := Aside0.mk (blk_alloc F24_.out (.cells #[.slice P2 Dn.s.length p2, .slice Q2 Dn.p.length q2, .int .i64 Dn.left, .bool Dn.st] 25))
      have F31_ := Aside0.mk (DiskF.below F25_.out (below_alloc (Below.refl _ _) (.cells #[.slice P2 Dn.s.length p2, .slice Q2 Dn.p.length q2, .int .i64 Dn.left, .bool Dn.st] 25)))
      clear F20_ F21_ F22_ F23_ F24_ F25_
      have F32_ := Aside0.mk (blk_new w6 (.cells #[.slice P2 Dn.s.length p2, .slice Q2 Dn.p.length q2, .int .i64 Dn.left, .bool Dn.st] 25))
      generalize w6.alloc (.cells #[.slice P2 Dn.s.length p2, .slice Q2 Dn.p.length q2, .int .i64 Dn.left, .bool Dn.st] 25) = w7 at *
      generalize w6.heap.size = b7 at *
      refine start_ (n := 23) (S := fun w' => Below w7.drew.heap.size w7.drew w') (ds := []) #[false, false, false, false, false, false, false, false, false, false, false, false, false, false, false, false, false, false, false, false, false, false, false] (by kernel_rfl) rfl rfl (Below.refl _ _) (fun hHeld => ?_)
      have F33_ := Aside0.mk (DiskF.below F26_.out (below_drew1 (Below.refl _ _)))
      have F34_ := Aside0.mk (below_drew1 F27_.out)
      have F35_ := Aside0.mk (blk_drew F28_.out)
      have F36_ := Aside0.mk (DiskF.below F29_.out (below_drew1 (Below.refl _ _)))
      have F37_ := Aside0.mk (blk_drew F30_.out)
      have F38_ := Aside0.mk (DiskF.below F31_.out (below_drew1 (Below.refl _ _)))
      have F39_ := Aside0.mk (blk_drew F32_.out)
      clear F26_ F27_ F28_ F29_ F30_ F31_ F32_
      generalize w7.drew = w8 at *
      have hold_b3 := F35_.out
      have hold_b5 := F37_.out
      have hold_b7 := F39_.out
      refine take_ (i := 0) (N := some 32) (v := ?_) (a' := ?_) #[true, false, false, false, false, false, false, false, false, false, false, false, false, false, false, false, false, false, false, false, false, false, false] rfl rfl (by kernel_rfl) (fun _ _ _ h => h) (Or.inl ⟨by rfl, ?_⟩) hHeld ?_ ?_
      rotate_left
      · rintro w' s0
        have hz0 := blk_below hold_b5 s0
        have yy00 := (blk_cell hz0 0).trans rfl
        have yy01 := (blk_cell hz0 1).trans rfl
        have yy02 := (blk_cell hz0 2).trans rfl
        have yy03 := (blk_cell hz0 3).trans rfl
        go_simp
        with_reducible rfl
      rotate_left
      · simp only [Act.put, List.setIfInBounds_toArray, List.set_cons_zero, List.set_cons_succ, i64_w, i32_w]
        rfl
      refine take_ (i := 1) (N := some 33) (v := ?_) (a' := ?_) #[true, true, false, false, false, false, false, false, false, false, false, false, false, false, false, false, false, false, false, false, false, false, false] rfl rfl (by kernel_rfl) (fun _ _ _ h => h) (Or.inl ⟨by rfl, ?_⟩) hHeld ?_ ?_
      rotate_left
      · rintro w' s0
        have hz0 := blk_below hold_b7 s0
        have yy00 := (blk_cell hz0 0).trans rfl
        have yy01 := (blk_cell hz0 1).trans rfl
        have yy02 := (blk_cell hz0 2).trans rfl
        have yy03 := (blk_cell hz0 3).trans rfl
        go_simp
        with_reducible rfl
      rotate_left
      · simp only [Act.put, List.setIfInBounds_toArray, List.set_cons_zero, List.set_cons_succ, i64_w, i32_w]
        rfl
      refine one_ (i := 2) (N := some 34) #[true, true, true, false, false, false, false, false, false, false, false, false, false, false, false, false, false, false, false, false, false, false, false] rfl rfl (by kernel_rfl) (by decide) (fun K hK => ?_)
      refine goes_ Try.func21 (by kernel_rfl) rfl #[(.agg #[.slice P1 Dn.s.length p1, .slice Q1 Dn.p.length q1, .int .i64 Dn.left, .bool Dn.st]), (.agg #[.slice P2 Dn.s.length p2, .slice Q2 Dn.p.length q2, .int .i64 Dn.left, .bool Dn.st])] (by rfl) rfl rfl (by (try simp only [List.map_toArray, List.map_cons, List.map_nil]); first | done | rfl) ?_
      refine (same_says _ _ Dn _ (DiskF.V F36_.out) (DiskF.V F38_.out)).mono ?_
      rintro e w9 ⟨rfl, hb⟩
      refine ⟨_, rfl, ?_⟩
      refine hK.out _ _ (below_step hHeld hb) (fun hHeld => ?_)
      clear hK K
      refine norm_ (a' := ?_) ?_ ?_
      rotate_left
      · show Act.put _ (some 34) _ = _
        simp only [Act.put, List.setIfInBounds_toArray, List.set_cons_zero, List.set_cons_succ, i64_w, i32_w]
        rfl
      have F40_ := Aside0.mk (DiskF.below F33_.out hb)
      have F41_ := Aside0.mk (below_step F34_.out hb)
      have F42_ := Aside0.mk (blk_below F35_.out hb)
      have F43_ := Aside0.mk (DiskF.below F36_.out hb)
      have F44_ := Aside0.mk (blk_below F37_.out hb)
      have F45_ := Aside0.mk (DiskF.below F38_.out hb)
      have F46_ := Aside0.mk (blk_below F39_.out hb)
      clear F33_ F34_ F35_ F36_ F37_ F38_ F39_
      clear hb
      refine pure_ (i := 3) (N := some 35) (v := ?_) (a' := ?_) #[true, true, true, true, false, false, false, false, false, false, false, false, false, false, false, false, false, false, false, false, false, false, false] rfl rfl (by kernel_rfl) (fun _ _ _ h => h) (Or.inl ⟨by rfl, ?_⟩) ?_ ?_
      rotate_left
      · intro w'
        go_simp
        with_reducible rfl
      rotate_left
      · simp only [Act.put, List.setIfInBounds_toArray, List.set_cons_zero, List.set_cons_succ, i64_w, i32_w]
        rfl
      refine pure_ (i := 4) (N := some 36) (v := ?_) (a' := ?_) #[true, true, true, true, true, false, false, false, false, false, false, false, false, false, false, false, false, false, false, false, false, false, false] rfl rfl (by kernel_rfl) (fun _ _ _ h => h) (Or.inl ⟨by rfl, ?_⟩) ?_ ?_
      rotate_left
      · intro w'
        go_simp
        with_reducible rfl
      rotate_left
      · simp only [Act.put, List.setIfInBounds_toArray, List.set_cons_zero, List.set_cons_succ, i64_w, i32_w]
        rfl
      refine pure_ (i := 5) (N := some 37) (v := ?_) (a' := ?_) #[true, true, true, true, true, true, false, false, false, false, false, false, false, false, false, false, false, false, false, false, false, false, false] rfl rfl (by kernel_rfl) (fun _ _ _ h => h) (Or.inl ⟨by rfl, ?_⟩) ?_ ?_
      rotate_left
      · intro w'
        go_simp
        with_reducible rfl
      rotate_left
      · simp only [Act.put, List.setIfInBounds_toArray, List.set_cons_zero, List.set_cons_succ, i64_w, i32_w]
        rfl
      refine pure_ (i := 6) (N := some 38) (v := ?_) (a' := ?_) #[true, true, true, true, true, true, true, false, false, false, false, false, false, false, false, false, false, false, false, false, false, false, false] rfl rfl (by kernel_rfl) (fun _ _ _ h => h) (Or.inl ⟨by rfl, ?_⟩) ?_ ?_
      rotate_left
      · intro w'
        go_simp
        with_reducible rfl
      rotate_left
      · simp only [Act.put, List.setIfInBounds_toArray, List.set_cons_zero, List.set_cons_succ, i64_w, i32_w]
        rfl
      refine pure_ (i := 7) (N := some 39) (v := ?_) (a' := ?_) #[true, true, true, true, true, true, true, true, false, false, false, false, false, false, false, false, false, false, false, false, false, false, false] rfl rfl (by kernel_rfl) (fun _ _ _ h => h) (Or.inl ⟨by rfl, ?_⟩) ?_ ?_
      rotate_left
      · intro w'
        go_simp
        with_reducible rfl
      rotate_left
      · simp only [Act.put, List.setIfInBounds_toArray, List.set_cons_zero, List.set_cons_succ, i64_w, i32_w]
        rfl
      refine pure_ (i := 8) (N := some 40) (v := ?_) (a' := ?_) #[true, true, true, true, true, true, true, true, true, false, false, false, false, false, false, false, false, false, false, false, false, false, false] rfl rfl (by kernel_rfl) (fun _ _ _ h => h) (Or.inl ⟨by rfl, ?_⟩) ?_ ?_
      rotate_left
      · intro w'
        go_simp
        with_reducible rfl
      rotate_left
      · simp only [Act.put, List.setIfInBounds_toArray, List.set_cons_zero, List.set_cons_succ, i64_w, i32_w]
        rfl
      refine take_ (i := 9) (N := some 41) (v := ?_) (a' := ?_) #[true, true, true, true, true, true, true, true, true, true, false, false, false, false, false, false, false, false, false, false, false, false, false] rfl rfl (by kernel_rfl) (fun _ _ _ h => h) (Or.inl ⟨by rfl, ?_⟩) hHeld ?_ ?_
      rotate_left
      · rintro w' s0
        have hz0 := blk_below hold_b3 s0
        have yy00 := (blk_cell hz0 0).trans rfl
        have yy01 := (blk_cell hz0 1).trans rfl
        have yy02 := (blk_cell hz0 2).trans rfl
        have yy03 := (blk_cell hz0 3).trans rfl
        go_simp
        with_reducible rfl
      rotate_left
      · simp only [Act.put, List.setIfInBounds_toArray, List.set_cons_zero, List.set_cons_succ, i64_w, i32_w]
        rfl
      refine take_ (i := 11) (N := some 43) (v := ?_) (a' := ?_) #[true, true, true, true, true, true, true, true, true, true, false, true, false, false, false, false, false, false, false, false, false, false, false] rfl rfl (by kernel_rfl) (fun _ _ _ h => h) (Or.inl ⟨by rfl, ?_⟩) hHeld ?_ ?_
      rotate_left
      · rintro w' s0
        have hz0 := blk_below hold_b3 s0
        have yy00 := (blk_cell hz0 0).trans rfl
        have yy01 := (blk_cell hz0 1).trans rfl
        have yy02 := (blk_cell hz0 2).trans rfl
        have yy03 := (blk_cell hz0 3).trans rfl
        go_simp
        with_reducible rfl
      rotate_left
      · simp only [Act.put, List.setIfInBounds_toArray, List.set_cons_zero, List.set_cons_succ, i64_w, i32_w]
        rfl
      refine one_ (i := 10) (N := some 42) #[true, true, true, true, true, true, true, true, true, true, true, true, false, false, false, false, false, false, false, false, false, false, false] rfl rfl (by kernel_rfl) (by decide) (fun K hK => ?_)
      refine goes_ Try.func22 (by kernel_rfl) rfl #[(.agg #[.slice P0 d.s.length p0, .slice Q0 d.p.length q0, .int .i64 d.left, .bool d.st])] (by rfl) rfl rfl (by (try simp only [List.map_toArray, List.map_cons, List.map_nil]); first | done | rfl) ?_
      refine (check_says _ d _ (DiskF.V F40_.out)).mono ?_
      rintro e w10 ⟨rfl, hb⟩
      refine ⟨_, rfl, ?_⟩
      refine hK.out _ _ (below_step hHeld hb) (fun hHeld => ?_)
      clear hK K
      refine norm_ (a' := ?_) ?_ ?_
      rotate_left
      · show Act.put _ (some 42) _ = _
        simp only [Act.put, List.setIfInBounds_toArray, List.set_cons_zero, List.set_cons_succ, i64_w, i32_w]
        rfl
      have F47_ := Aside0.mk (DiskF.below F40_.out hb)
      have F48_ := Aside0.mk (below_step F41_.out hb)
      have F49_ := Aside0.mk (blk_below F42_.out hb)
      have F50_ := Aside0.mk (DiskF.below F43_.out hb)
      have F51_ := Aside0.mk (blk_below F44_.out hb)
      have F52_ := Aside0.mk (DiskF.below F45_.out hb)
      have F53_ := Aside0.mk (blk_below F46_.out hb)
      clear F40_ F41_ F42_ F43_ F44_ F45_ F46_
      clear hb
      refine one_ (i := 12) (N := some 44) #[true, true, true, true, true, true, true, true, true, true, true, true, true, false, false, false, false, false, false, false, false, false, false] rfl rfl (by kernel_rfl) (by decide) (fun K hK => ?_)
      refine goes_ Try.func23 (by kernel_rfl) rfl #[(.agg #[.slice P0 d.s.length p0, .slice Q0 d.p.length q0, .int .i64 d.left, .bool d.st])] (by rfl) rfl rfl (by (try simp only [List.map_toArray, List.map_cons, List.map_nil]); first | done | rfl) ?_
      refine (refcheck_says _ d _ (DiskF.V F47_.out)).mono ?_
      rintro e w11 ⟨rfl, hb⟩
      refine ⟨_, rfl, ?_⟩
      refine hK.out _ _ (below_step hHeld hb) (fun hHeld => ?_)
      clear hK K
      refine norm_ (a' := ?_) ?_ ?_
      rotate_left
      · show Act.put _ (some 44) _ = _
        simp only [Act.put, List.setIfInBounds_toArray, List.set_cons_zero, List.set_cons_succ, i64_w, i32_w]
        rfl
      have F54_ := Aside0.mk (DiskF.below F47_.out hb)
      have F55_ := Aside0.mk (below_step F48_.out hb)
      have F56_ := Aside0.mk (blk_below F49_.out hb)
      have F57_ := Aside0.mk (DiskF.below F50_.out hb)
      have F58_ := Aside0.mk (blk_below F51_.out hb)
      have F59_ := Aside0.mk (DiskF.below F52_.out hb)
      have F60_ := Aside0.mk (blk_below F53_.out hb)
      clear F47_ F48_ F49_ F50_ F51_ F52_ F53_
      clear hb
      refine pure_ (i := 13) (N := some 45) (v := ?_) (a' := ?_) #[true, true, true, true, true, true, true, true, true, true, true, true, true, true, false, false, false, false, false, false, false, false, false] rfl rfl (by kernel_rfl) (fun _ _ _ h => h) (Or.inl ⟨by rfl, ?_⟩) ?_ ?_
      rotate_left
      · intro w'
        go_simp
        with_reducible rfl
      rotate_left
      · simp only [Act.put, List.setIfInBounds_toArray, List.set_cons_zero, List.set_cons_succ, i64_w, i32_w]
        rfl
      refine pure_ (i := 14) (N := some 46) (v := ?_) (a' := ?_) #[true, true, true, true, true, true, true, true, true, true, true, true, true, true, true, false, false, false, false, false, false, false, false] rfl rfl (by kernel_rfl) (fun _ _ _ h => h) (Or.inl ⟨by rfl, ?_⟩) ?_ ?_
      rotate_left
      · intro w'
        go_simp
        with_reducible rfl
      rotate_left
      · simp only [Act.put, List.setIfInBounds_toArray, List.set_cons_zero, List.set_cons_succ, i64_w, i32_w]
        rfl
      refine pure_ (i := 15) (N := some 47) (v := ?_) (a' := ?_) #[true, true, true, true, true, true, true, true, true, true, true, true, true, true, true, true, false, false, false, false, false, false, false] rfl rfl (by kernel_rfl) (fun _ _ _ h => h) (Or.inl ⟨by rfl, ?_⟩) ?_ ?_
      rotate_left
      · intro w'
        go_simp
        with_reducible rfl
      rotate_left
      · simp only [Act.put, List.setIfInBounds_toArray, List.set_cons_zero, List.set_cons_succ, i64_w, i32_w]
        rfl
      refine take_ (i := 16) (N := some 48) (v := ?_) (a' := ?_) #[true, true, true, true, true, true, true, true, true, true, true, true, true, true, true, true, true, false, false, false, false, false, false] rfl rfl (by kernel_rfl) (fun _ _ _ h => h) (Or.inl ⟨by rfl, ?_⟩) hHeld ?_ ?_
      rotate_left
      · rintro w' s0
        have hz0 := blk_below hold_b3 s0
        have yy00 := (blk_cell hz0 0).trans rfl
        have yy01 := (blk_cell hz0 1).trans rfl
        have yy02 := (blk_cell hz0 2).trans rfl
        have yy03 := (blk_cell hz0 3).trans rfl
        go_simp
        with_reducible rfl
      rotate_left
      · simp only [Act.put, List.setIfInBounds_toArray, List.set_cons_zero, List.set_cons_succ, i64_w, i32_w]
        rfl
      refine take_ (i := 18) (N := some 50) (v := ?_) (a' := ?_) #[true, true, true, true, true, true, true, true, true, true, true, true, true, true, true, true, true, false, true, false, false, false, false] rfl rfl (by kernel_rfl) (fun _ _ _ h => h) (Or.inl ⟨by rfl, ?_⟩) hHeld ?_ ?_
      rotate_left
      · rintro w' s0
        have hz0 := blk_below hold_b3 s0
        have yy00 := (blk_cell hz0 0).trans rfl
        have yy01 := (blk_cell hz0 1).trans rfl
        have yy02 := (blk_cell hz0 2).trans rfl
        have yy03 := (blk_cell hz0 3).trans rfl
        go_simp
        with_reducible rfl
      rotate_left
      · simp only [Act.put, List.setIfInBounds_toArray, List.set_cons_zero, List.set_cons_succ, i64_w, i32_w]
        rfl
      refine one_ (i := 17) (N := some 49) #[true, true, true, true, true, true, true, true, true, true, true, true, true, true, true, true, true, true, true, false, false, false, false] rfl rfl (by kernel_rfl) (by decide) (fun K hK => ?_)
      refine goes_ Try.func24 (by kernel_rfl) rfl #[(.agg #[.slice P0 d.s.length p0, .slice Q0 d.p.length q0, .int .i64 d.left, .bool d.st])] (by rfl) rfl rfl (by (try simp only [List.map_toArray, List.map_cons, List.map_nil]); first | done | rfl) ?_
      refine ((restart_says _ d _ (DiskF.V F54_.out)).mono (fun e w' h => DV.of h hR.out)).mono ?_
      rintro e w12 ⟨⟨P3, p3, Q3, q3, rfl, hd⟩, hb⟩
      refine ⟨_, rfl, ?_⟩
      refine hK.out _ _ (below_step hHeld hb) (fun hHeld => ?_)
      clear hK K
      refine norm_ (a' := ?_) ?_ ?_
      rotate_left
      · show Act.put _ (some 49) _ = _
        simp only [Act.put, List.setIfInBounds_toArray, List.set_cons_zero, List.set_cons_succ, i64_w, i32_w]
        rfl
      have F61_ := Aside0.mk (DiskF.below F54_.out hb)
      have F62_ := Aside0.mk (below_step F55_.out hb)
      have F63_ := Aside0.mk (blk_below F56_.out hb)
      have F64_ := Aside0.mk (DiskF.below F57_.out hb)
      have F65_ := Aside0.mk (blk_below F58_.out hb)
      have F66_ := Aside0.mk (DiskF.below F59_.out hb)
      have F67_ := Aside0.mk (blk_below F60_.out hb)
      clear F54_ F55_ F56_ F57_ F58_ F59_ F60_
      have F68_ := Aside0.mk (DiskV.F hd)
      clear hb
      refine one_ (i := 19) (N := some 51) #[true, true, true, true, true, true, true, true, true, true, true, true, true, true, true, true, true, true, true, true, false, false, false] rfl rfl (by kernel_rfl) (by decide) (fun K hK => ?_)
      refine goes_ Try.func25 (by kernel_rfl) rfl #[(.agg #[.slice P0 d.s.length p0, .slice Q0 d.p.length q0, .int .i64 d.left, .bool d.st])] (by rfl) rfl rfl (by (try simp only [List.map_toArray, List.map_cons, List.map_nil]); first | done | rfl) ?_
      refine ((refrestart_says _ d _ (DiskF.V F61_.out)).mono (fun e w' h => DV.of h hR.out)).mono ?_
      rintro e w13 ⟨⟨P4, p4, Q4, q4, rfl, hd⟩, hb⟩
      refine ⟨_, rfl, ?_⟩
      refine hK.out _ _ (below_step hHeld hb) (fun hHeld => ?_)
      clear hK K
      refine norm_ (a' := ?_) ?_ ?_
      rotate_left
      · show Act.put _ (some 51) _ = _
        simp only [Act.put, List.setIfInBounds_toArray, List.set_cons_zero, List.set_cons_succ, i64_w, i32_w]
        rfl
      have F69_ := Aside0.mk (DiskF.below F61_.out hb)
      have F70_ := Aside0.mk (below_step F62_.out hb)
      have F71_ := Aside0.mk (blk_below F63_.out hb)
      have F72_ := Aside0.mk (DiskF.below F64_.out hb)
      have F73_ := Aside0.mk (blk_below F65_.out hb)
      have F74_ := Aside0.mk (DiskF.below F66_.out hb)
      have F75_ := Aside0.mk (blk_below F67_.out hb)
      have F76_ := Aside0.mk (DiskF.below F68_.out hb)
      clear F61_ F62_ F63_ F64_ F65_ F66_ F67_ F68_
      have F77_ := Aside0.mk (DiskV.F hd)
      clear hb
      refine one_ (i := 20) (N := some 52) #[true, true, true, true, true, true, true, true, true, true, true, true, true, true, true, true, true, true, true, true, true, false, false] rfl rfl (by kernel_rfl) (by decide) (fun K hK => ?_)
      refine goes_ Try.func21 (by kernel_rfl) rfl #[(.agg #[.slice P3 Rd.s.length p3, .slice Q3 Rd.p.length q3, .int .i64 Rd.left, .bool Rd.st]), (.agg #[.slice P4 Rd.s.length p4, .slice Q4 Rd.p.length q4, .int .i64 Rd.left, .bool Rd.st])] (by rfl) rfl rfl (by (try simp only [List.map_toArray, List.map_cons, List.map_nil]); first | done | rfl) ?_
      refine (same_says _ _ Rd _ (DiskF.V F76_.out) (DiskF.V F77_.out)).mono ?_
      rintro e w14 ⟨rfl, hb⟩
      refine ⟨_, rfl, ?_⟩
      refine hK.out _ _ (below_step hHeld hb) (fun hHeld => ?_)
      clear hK K
      refine norm_ (a' := ?_) ?_ ?_
      rotate_left
      · show Act.put _ (some 52) _ = _
        simp only [Act.put, List.setIfInBounds_toArray, List.set_cons_zero, List.set_cons_succ, i64_w, i32_w]
        rfl
      have F78_ := Aside0.mk (DiskF.below F69_.out hb)
      have F79_ := Aside0.mk (below_step F70_.out hb)
      have F80_ := Aside0.mk (blk_below F71_.out hb)
      have F81_ := Aside0.mk (DiskF.below F72_.out hb)
      have F82_ := Aside0.mk (blk_below F73_.out hb)
      have F83_ := Aside0.mk (DiskF.below F74_.out hb)
      have F84_ := Aside0.mk (blk_below F75_.out hb)
      have F85_ := Aside0.mk (DiskF.below F76_.out hb)
      have F86_ := Aside0.mk (DiskF.below F77_.out hb)
      clear F69_ F70_ F71_ F72_ F73_ F74_ F75_ F76_ F77_
      clear hb
      refine pure_ (i := 21) (N := some 53) (v := ?_) (a' := ?_) #[true, true, true, true, true, true, true, true, true, true, true, true, true, true, true, true, true, true, true, true, true, true, false] rfl rfl (by kernel_rfl) (fun _ _ _ h => h) (Or.inl ⟨by rfl, ?_⟩) ?_ ?_
      rotate_left
      · intro w'
        go_simp
        with_reducible rfl
      rotate_left
      · simp only [Act.put, List.setIfInBounds_toArray, List.set_cons_zero, List.set_cons_succ, i64_w, i32_w]
        rfl
      refine pure_ (i := 22) (N := some 4) (v := ?_) (a' := ?_) #[true, true, true, true, true, true, true, true, true, true, true, true, true, true, true, true, true, true, true, true, true, true, true] rfl rfl (by kernel_rfl) (fun _ _ _ h => h) (Or.inl ⟨by rfl, ?_⟩) ?_ ?_
      rotate_left
      · intro w'
        go_simp
        with_reducible rfl
      rotate_left
      · simp only [Act.put, List.setIfInBounds_toArray, List.set_cons_zero, List.set_cons_succ, i64_w, i32_w]
        rfl
      refine done_ (by kernel_rfl) ?_
      go_wp2
      go_ret
      exact ⟨rfl, F79_.out⟩
theorem newSpec_says (n : Int) (v : Value) (d : Dk) (w : World) (h : DiskV w v d) : Calls Try.prog 3 #[.int .i64 n, v] w fun e w' => e = .returned (.bool true) ∧ Below w.heap.size w w' := by
  have h2 := h
  obtain ⟨P0, p0, Q0, q0, rfl, -⟩ := h2
  by_cases h1 : 60 < n
  · by_cases h3 : n ≤ 4096
    · exact newSpec_many n P0 p0 Q0 q0 d w h ⟨h1, h3⟩
    · exact newSpec_b n P0 p0 Q0 q0 d w h h1 h3
  · exact newSpec_a n P0 p0 Q0 q0 d w h h1
end Go.Proofs.Ytlnmjgkeiljniaa.Q
/- sizarlaw45.DiskWriteSpec, walked. -/
namespace Go.Proofs.Ytlnmjgkeiljniaa.Q
open Go.RowKit Go.Proofs.YtlnmjgkeiljniaaW.PrintWords Go.Proofs.YtlnmjgkeiljniaaW.PrintLast Go.Proofs.YtlnmjgkeiljniaaW.PrintMore
set_option linter.unusedVariables false
set_option linter.unusedSimpArgs false
set_option maxHeartbeats 8000000 in
set_option maxRecDepth 100000 in
theorem writeSpec_walk (P0 : Option Addr) (p0 : Nat) (Q0 : Option Addr) (q0 : Nat) (d : Dk) (a : Int) (A2 : Option Addr) (c2 : Nat) (b : List Int) (w : World) (h : DiskV w (.agg #[.slice P0 d.s.length p0, .slice Q0 d.p.length q0, .int .i64 d.left, .bool d.st]) d) (h2 : BytesV w (.slice A2 b.length c2) b) : Calls Try.prog 4 #[(.agg #[.slice P0 d.s.length p0, .slice Q0 d.p.length q0, .int .i64 d.left, .bool d.st]), .int .i64 a, .slice A2 b.length c2] w fun e w' => e = .returned (.bool true) ∧ Below w.heap.size w w' := by
  have hu25 := Try.underlying25
  have D0 := Aside0.mk (DiskV.F h)
  obtain ⟨A, c, he, hc2, hC2⟩ := h2
  cases he
  replace hc2 := Aside0.mk hc2
  have E0 := Aside0.mk (Kd.C_F (Kd.heap_int .u8) hC2)
  have F1_ := Aside0.mk (Below.refl w.heap.size w)
  clear h hC2
  obtain ⟨Dn, En, hn⟩ : ∃ Dn En, Aside0 (writeD d a b = (Dn, En)) := ⟨_, _, ⟨rfl⟩⟩
  obtain ⟨U, G, hg⟩ : ∃ U G, Aside0 (readD d a = (U, G)) := ⟨_, _, ⟨rfl⟩⟩
  go_enter Try.func4, Try.ntmps4
  go_upto_region 1 with (fail)
  have F2_ := Aside0.mk (DiskF.below D0.out (below_alloc (Below.refl _ _) (.cells #[.slice P0 d.s.length p0, .slice Q0 d.p.length q0, .int .i64 d.left, .bool d.st] 25)))
  have F3_ := Aside0.mk (Kd.F_alloc E0.out (.cells #[.slice P0 d.s.length p0, .slice Q0 d.p.length q0, .int .i64 d.left, .bool d.st] 25))
  have F4_ := Aside0.mk (below_alloc F1_.out (.cells #[.slice P0 d.s.length p0, .slice Q0 d.p.length q0, .int .i64 d.left, .bool d.st] 25))
  clear D0 E0 F1_
  have F5_ := Aside0.mk (blk_new w (.cells #[.slice P0 d.s.length p0, .slice Q0 d.p.length q0, .int .i64 d.left, .bool d.st] 25))
  generalize w.alloc (.cells #[.slice P0 d.s.length p0, .slice Q0 d.p.length q0, .int .i64 d.left, .bool d.st] 25) = w1 at *
  go_upto_region 3 with (go_at_call 17; (refine (sane_says _).mono ?_); rintro e w2 ⟨rfl, hb⟩; have F6_ := Aside0.mk (DiskF.below F2_.out hb); have F7_ := Aside0.mk (Kd.F_below F3_.out hb); have F8_ := Aside0.mk (below_step F4_.out hb); have F9_ := Aside0.mk (blk_below F5_.out hb); clear F2_ F3_ F4_ F5_; clear hb)
  have y0 := (blk_cell F9_.out 0).trans rfl
  have y1 := (blk_cell F9_.out 1).trans rfl
  have y2 := (blk_cell F9_.out 2).trans rfl
  have y3 := (blk_cell F9_.out 3).trans rfl
  obtain ⟨r, hr⟩ : ∃ r : Bool, Aside0 (∀ w', Below w2.heap.size w2 w' → Calls Try.prog 18 #[(.agg #[.slice P0 d.s.length p0, .slice Q0 d.p.length q0, .int .i64 d.left, .bool d.st])] w' fun e w'' => e = .returned (.bool r) ∧ Below w'.heap.size w' w'') := few_one F6_.out
  cases r with
    | false =>
      go_wp2_with (go_at_call 18; (refine (hr.out _ (Below.refl _ _)).mono ?_); rintro e w3 ⟨rfl, hb⟩; have F10_ := Aside0.mk (DiskF.below F6_.out hb); have F11_ := Aside0.mk (Kd.F_below F7_.out hb); have F12_ := Aside0.mk (below_step F8_.out hb); have F13_ := Aside0.mk (blk_below F9_.out hb); clear F6_ F7_ F8_ F9_; clear hb)
      go_ret
      exact ⟨rfl, F12_.out⟩
    | true =>
      cases hq : decide ((1000 : Int) < (b.length : Int)) with
        | true =>
          go_wp2_with (go_at_call 18; (refine (hr.out _ (Below.refl _ _)).mono ?_); rintro e w3 ⟨rfl, hb⟩; have F10_ := Aside0.mk (DiskF.below F6_.out hb); have F11_ := Aside0.mk (Kd.F_below F7_.out hb); have F12_ := Aside0.mk (below_step F8_.out hb); have F13_ := Aside0.mk (blk_below F9_.out hb); clear F6_ F7_ F8_ F9_; clear hb)
          go_ret
          exact ⟨rfl, F12_.out⟩
        | false =>
          go_upto_region 5 with (go_at_call 18; (refine (hr.out _ (Below.refl _ _)).mono ?_); rintro e w3 ⟨rfl, hb⟩; have F10_ := Aside0.mk (DiskF.below F6_.out hb); have F11_ := Aside0.mk (Kd.F_below F7_.out hb); have F12_ := Aside0.mk (below_step F8_.out hb); have F13_ := Aside0.mk (blk_below F9_.out hb); clear F6_ F7_ F8_ F9_; clear hb)
          clear y0 y1 y2 y3
          have y0 := (blk_cell F13_.out 0).trans rfl
          have y1 := (blk_cell F13_.out 1).trans rfl
          have y2 := (blk_cell F13_.out 2).trans rfl
          have y3 := (blk_cell F13_.out 3).trans rfl
          go_upto_region 6 with (go_at_call 26; (refine ((write_says _ _ d a b _ (DiskF.V F10_.out) ⟨A2, c2, rfl, hc2.out, Kd.F_now F11_.out⟩).mono (fun e w' h => DE.of h hn.out)).mono ?_); rintro e w4 ⟨⟨P1, p1, Q1, q1, rfl, hd⟩, hb⟩; have F14_ := Aside0.mk (DiskF.below F10_.out hb); have F15_ := Aside0.mk (Kd.F_below F11_.out hb); have F16_ := Aside0.mk (below_step F12_.out hb); have F17_ := Aside0.mk (blk_below F13_.out hb); clear F10_ F11_ F12_ F13_; have F18_ := Aside0.mk (DiskV.F hd); clear hd hb)
          clear y0 y1 y2 y3
          have F19_ := Aside0.mk (DiskF.below F14_.out (below_alloc (Below.refl _ _) (.cells #[.slice P1 Dn.s.length p1, .slice Q1 Dn.p.length q1, .int .i64 Dn.left, .bool Dn.st] 25)))
          have F20_ := Aside0.mk (Kd.F_alloc F15_.out (.cells #[.slice P1 Dn.s.length p1, .slice Q1 Dn.p.length q1, .int .i64 Dn.left, .bool Dn.st] 25))
          have F21_ := Aside0.mk (below_alloc F16_.out (.cells #[.slice P1 Dn.s.length p1, .slice Q1 Dn.p.length q1, .int .i64 Dn.left, .bool Dn.st] 25))
          have F22_ := Aside0.mk (blk_alloc F17_.out (.cells #[.slice P1 Dn.s.length p1, .slice Q1 Dn.p.length q1, .int .i64 Dn.left, .bool Dn.st] 25))
          have F23_ := Aside0.mk (DiskF.below F18_.out (below_alloc (Below.refl _ _) (.cells #[.slice P1 Dn.s.length p1, .slice Q1 Dn.p.length q1, .int .i64 Dn.left, .bool Dn.st] 25)))
          clear F14_ F15_ F16_ F17_ F18_
          have F24_ := Aside0.mk (blk_new w4 (.cells #[.slice P1 Dn.s.length p1, .slice Q1 Dn.p.length q1, .int .i64 Dn.left, .bool Dn.st] 25))
          generalize w4.alloc (.cells #[.slice P1 Dn.s.length p1, .slice Q1 Dn.p.length q1, .int .i64 Dn.left, .bool Dn.st] 25) = w5 at *
          generalize w4.heap.size = b7 at *
          have y0 := (blk_cell F22_.out 0).trans rfl
          have y1 := (blk_cell F22_.out 1).trans rfl
          have y2 := (blk_cell F22_.out 2).trans rfl
          have y3 := (blk_cell F22_.out 3).trans rfl
          go_upto_region 7 with (go_at_call 27; (refine ((refwrite_says _ _ d a b _ (DiskF.V F19_.out) ⟨A2, c2, rfl, hc2.out, Kd.F_now F20_.out⟩).mono (fun e w' h => DE.of h hn.out)).mono ?_); rintro e w6 ⟨⟨P2, p2, Q2, q2, rfl, hd⟩, hb⟩; have F25_ := Aside0.mk (DiskF.below F19_.out hb); have F26_ := Aside0.mk (Kd.F_below F20_.out hb); have F27_ := Aside0.mk (below_step F21_.out hb); have F28_ := Aside0.mk (blk_below F22_.out hb); have F29_ := Aside0.mk (DiskF.below F23_.out hb); have F30_ := Aside0.mk (blk_below F24_.out hb); clear F19_ F20_ F21_ F22_ F23_ F24_; have F31_ := Aside0.mk (DiskV.F hd); clear hd hb)
          clear y0 y1 y2 y3
          have F32_ := Aside0.mk (DiskF.below F25_.out (below_alloc (Below.refl _ _) (.cells #[.slice P2 Dn.s.length p2, .slice Q2 Dn.p.length q2, .int .i64 Dn.left, .bool Dn.st] 25)))
          have F33_ := Aside0.mk (Kd.F_alloc F26_.out (.cells #[.slice P2 Dn.s.length p2, .slice Q2 Dn.p.length q2, .int .i64 Dn.left, .bool Dn.st] 25))
          have F34_ := Aside0.mk (below_alloc F27_.out (.cells #[.slice P2 Dn.s.length p2, .slice Q2 Dn.p.length q2, .int .i64 Dn.left, .bool Dn.st] 25))
          have F35_ := Aside0.mk (blk_alloc F28_.out (.cells #[.slice P2 Dn.s.length p2, .slice Q2 Dn.p.length q2, .int .i64 Dn.left, .bool Dn.st] 25))
          have F36_ := Aside0.mk (DiskF.below F29_.out (below_alloc (Below.refl _ _) (.cells #[.slice P2 Dn.s.length p2, .slice Q2 Dn.p.length q2, .int .i64 Dn.left, .bool Dn.st] 25)))
          have F37_ := Aside0.mk (blk_alloc F30_.out (.cells #[.slice P2 Dn.s.length p2, .slice Q2 Dn.p.length q2, .int .i64 Dn.left, .bool Dn.st] 25))
          have F38_ := Aside0.mk (DiskF.below F31_.out (below_alloc (Below.refl _ _) (.cells #[.slice P2 Dn.s.length p2, .slice Q2 Dn.p.length q2, .int .i64 Dn.left, .bool Dn.st] 25)))
          clear F25_ F26_ F27_ F28_ F29_ F30_ F31_
          have F39_ := Aside0.mk (blk_new w6 (.cells #[.slice P2 Dn.s.length p2, .slice Q2 Dn.p.length q2, .int .i64 Dn.left, .bool Dn.st] 25))
          generalize w6.alloc (.cells #[.slice P2 Dn.s.length p2, .slice Q2 Dn.p.length q2, .int .i64 Dn.left, .bool Dn.st] 25) = w7 at *
          generalize w6.heap.size = b9 at *
          have y0 := (blk_cell F35_.out 0).trans rfl
          have y1 := (blk_cell F35_.out 1).trans rfl
          have y2 := (blk_cell F35_.out 2).trans rfl
          have y3 := (blk_cell F35_.out 3).trans rfl
          go_upto_region 8 with (go_at_call 28; (refine ((read_says _ d a _ (DiskF.V F32_.out)).mono (fun e w' h => RE.of h hg.out rfl)).mono ?_); rintro e w8 ⟨⟨A11, c11, rfl, hc11, hd⟩, hb⟩; have F40_ := Aside0.mk (DiskF.below F32_.out hb); have F41_ := Aside0.mk (Kd.F_below F33_.out hb); have F42_ := Aside0.mk (below_step F34_.out hb); have F43_ := Aside0.mk (blk_below F35_.out hb); have F44_ := Aside0.mk (DiskF.below F36_.out hb); have F45_ := Aside0.mk (blk_below F37_.out hb); have F46_ := Aside0.mk (DiskF.below F38_.out hb); have F47_ := Aside0.mk (blk_below F39_.out hb); clear F32_ F33_ F34_ F35_ F36_ F37_ F38_ F39_; have F48_ := Aside0.mk (hd); clear hd hb hc11)
          clear y0 y1 y2 y3
          have y0 := (blk_cell F43_.out 0).trans rfl
          have y1 := (blk_cell F43_.out 1).trans rfl
          have y2 := (blk_cell F43_.out 2).trans rfl
          have y3 := (blk_cell F43_.out 3).trans rfl
          go_upto_region 9 with (go_at_call 29; (refine ((refread_says _ d a _ (DiskF.V F40_.out)).mono (fun e w' h => RE.of h hg.out rfl)).mono ?_); rintro e w9 ⟨⟨A13, c13, rfl, hc13, hd⟩, hb⟩; have F49_ := Aside0.mk (DiskF.below F40_.out hb); have F50_ := Aside0.mk (Kd.F_below F41_.out hb); have F51_ := Aside0.mk (below_step F42_.out hb); have F52_ := Aside0.mk (blk_below F43_.out hb); have F53_ := Aside0.mk (DiskF.below F44_.out hb); have F54_ := Aside0.mk (blk_below F45_.out hb); have F55_ := Aside0.mk (DiskF.below F46_.out hb); have F56_ := Aside0.mk (blk_below F47_.out hb); have F57_ := Aside0.mk (Kd.F_below F48_.out hb); clear F40_ F41_ F42_ F43_ F44_ F45_ F46_ F47_ F48_; have F58_ := Aside0.mk (hd); clear hd hb hc13)
          clear y0 y1 y2 y3
          have y0 := (blk_cell F54_.out 0).trans rfl
          have y1 := (blk_cell F54_.out 1).trans rfl
          have y2 := (blk_cell F54_.out 2).trans rfl
          have y3 := (blk_cell F54_.out 3).trans rfl
          have z0 := (blk_cell F56_.out 0).trans rfl
          have z1 := (blk_cell F56_.out 1).trans rfl
          have z2 := (blk_cell F56_.out 2).trans rfl
          have z3 := (blk_cell F56_.out 3).trans rfl
          go_wp2_with (go_at_call 21; (refine (same_says _ _ Dn _ (DiskF.V F53_.out) (DiskF.V F55_.out)).mono ?_); rintro e w10 ⟨rfl, hb⟩; have F59_ := Aside0.mk (DiskF.below F49_.out hb); have F60_ := Aside0.mk (Kd.F_below F50_.out hb); have F61_ := Aside0.mk (below_step F51_.out hb); have F62_ := Aside0.mk (blk_below F52_.out hb); have F63_ := Aside0.mk (DiskF.below F53_.out hb); have F64_ := Aside0.mk (blk_below F54_.out hb); have F65_ := Aside0.mk (DiskF.below F55_.out hb); have F66_ := Aside0.mk (blk_below F56_.out hb); have F67_ := Aside0.mk (Kd.F_below F57_.out hb); have F68_ := Aside0.mk (Kd.F_below F58_.out hb); clear F49_ F50_ F51_ F52_ F53_ F54_ F55_ F56_ F57_ F58_; clear hb; have cvu := Kd.C_string (P := Try.prog) (c := c11) Try.underlying35 Try.underlying5 Try.underlying9 (Kd.F_now F67_.out); have cvv := Kd.C_string (P := Try.prog) (c := c13) Try.underlying35 Try.underlying5 Try.underlying9 (Kd.F_now F68_.out))
          go_ret
          exact ⟨rfl, F61_.out⟩
theorem writeSpec_says (v v2 : Value) (d : Dk) (a : Int) (b : List Int) (w : World) (h : DiskV w v d) (h2 : BytesV w v2 b) : Calls Try.prog 4 #[v, .int .i64 a, v2] w fun e w' => e = .returned (.bool true) ∧ Below w.heap.size w w' := by
  have h3 := h
  have h4 := h2
  obtain ⟨P0, p0, Q0, q0, rfl, -⟩ := h3
  obtain ⟨A2, c2, rfl, -⟩ := h4
  exact writeSpec_walk P0 p0 Q0 q0 d a A2 c2 b w h h2
end Go.Proofs.Ytlnmjgkeiljniaa.Q
/- sizarlaw45.DiskStopped, walked. -/
namespace Go.Proofs.Ytlnmjgkeiljniaa.Q
open Go.RowKit Go.Proofs.YtlnmjgkeiljniaaW.PrintWords Go.Proofs.YtlnmjgkeiljniaaW.PrintLast Go.Proofs.YtlnmjgkeiljniaaW.PrintMore
set_option linter.unusedVariables false
set_option linter.unusedSimpArgs false
theorem DiskV.secs {W : World} {A0 : Option Addr} {n0 c0 : Nat} {v1 v2 v3 : Value} {d : Dk} (h : DiskV W (.agg #[.slice A0 n0 c0, v1, v2, v3]) d) : (Kd.slice 5 (Kd.int .u8)).C W A0 d.s.length d.s := by
  obtain ⟨X0, x0, X1, x1, he, h1, h2, h3, h4⟩ := h
  cases he
  exact h3
def RV (w : World) (d : Dk) (e : Ending) (w' : World) : Prop := (∃ A0 c0 A1 c1, e = .returned (.agg #[.slice A0 d.s.length c0, .slice A1 0 c1, .int .i64 (-1), .bool false]) ∧ DiskV w' (.agg #[.slice A0 d.s.length c0, .slice A1 0 c1, .int .i64 (-1), .bool false]) (restartD d)) ∧ Below w.heap.size w w'
theorem RV.of {w w' : World} {d : Dk} {e : Ending} (h : (∃ v', e = .returned v' ∧ DiskV w' v' (restartD d)) ∧ Below w.heap.size w w') : RV w d e w' := by
  obtain ⟨⟨v, he, hd⟩, hb⟩ := h
  have hd2 := hd
  obtain ⟨A0, c0, A1, c1, rfl, -⟩ := hd2
  exact ⟨⟨A0, c0, A1, c1, he, hd⟩, hb⟩
def stD (d : Dk) : Dk := ⟨d.s, d.p, d.left, true⟩
theorem stD_runs (d : Dk) : ¬ runsD (stD d) = true := by unfold runsD stD; simp
theorem stD_read (d : Dk) (a : Int) : readD (stD d) a = ([], 450) := by unfold readD; rw [if_neg (fun h => stD_runs d h.1)]
theorem stD_write (d : Dk) (a : Int) (b : List Int) : writeD (stD d) a b = (zeroD, 450) := by unfold writeD; rw [if_pos (fun h => stD_runs d h.1)]
theorem stD_sync (d : Dk) : syncD (stD d) = (zeroD, 450) := by unfold syncD; rw [if_neg (stD_runs d)]
theorem stD_stop (d : Dk) (n : Int) : stopD (stD d) n = (zeroD, 450) := by unfold stopD; rw [if_neg (stD_runs d)]
set_option maxHeartbeats 8000000 in
set_option maxRecDepth 100000 in
theorem stopped_walk (P0 : Option Addr) (p0 : Nat) (Q0 : Option Addr) (q0 : Nat) (d : Dk) (a n : Int) (A2 : Option Addr) (c2 : Nat) (b : List Int) (w : World) (h : DiskV w (.agg #[.slice P0 d.s.length p0, .slice Q0 d.p.length q0, .int .i64 d.left, .bool d.st]) d) (h2 : BytesV w (.slice A2 b.length c2) b) : Calls Try.prog 11 #[(.agg #[.slice P0 d.s.length p0, .slice Q0 d.p.length q0, .int .i64 d.left, .bool d.st]), .int .i64 a, .int .i64 n, .slice A2 b.length c2] w fun e w' => e = .returned (.bool true) ∧ Below w.heap.size w w' := by
  have hu25 := Try.underlying25
  have D0 := Aside0.mk (DiskV.F h)
  have HM0 := Aside0.mk (show d.s.length ≤ 9223372036854775807 by obtain ⟨A0, c0, A1, c1, -, -, -, hC, -⟩ := h; exact hC.2.1)
  obtain ⟨A, c, he, hc2, hC2⟩ := h2
  cases he
  replace hc2 := Aside0.mk hc2
  have E0 := Aside0.mk (Kd.C_F (Kd.heap_int .u8) hC2)
  have F1_ := Aside0.mk (Below.refl w.heap.size w)
  clear h hC2
  go_enter Try.func11, Try.ntmps11
  go_upto_region 1 with (fail)
  have F2_ := Aside0.mk (DiskF.below D0.out (below_alloc (Below.refl _ _) (.cells #[.slice P0 d.s.length p0, .slice Q0 d.p.length q0, .int .i64 d.left, .bool d.st] 25)))
  have F3_ := Aside0.mk (Kd.F_alloc E0.out (.cells #[.slice P0 d.s.length p0, .slice Q0 d.p.length q0, .int .i64 d.left, .bool d.st] 25))
  have F4_ := Aside0.mk (below_alloc F1_.out (.cells #[.slice P0 d.s.length p0, .slice Q0 d.p.length q0, .int .i64 d.left, .bool d.st] 25))
  clear D0 E0 F1_
  have F5_ := Aside0.mk (blk_new w (.cells #[.slice P0 d.s.length p0, .slice Q0 d.p.length q0, .int .i64 d.left, .bool d.st] 25))
  generalize w.alloc (.cells #[.slice P0 d.s.length p0, .slice Q0 d.p.length q0, .int .i64 d.left, .bool d.st] 25) = w1 at *
  go_upto_region 3 with (go_at_call 17; (refine (sane_says _).mono ?_); rintro e w2 ⟨rfl, hb⟩; have F6_ := Aside0.mk (DiskF.below F2_.out hb); have F7_ := Aside0.mk (Kd.F_below F3_.out hb); have F8_ := Aside0.mk (below_step F4_.out hb); have F9_ := Aside0.mk (blk_below F5_.out hb); clear F2_ F3_ F4_ F5_; clear hb)
  have y0 := (blk_cell F9_.out 0).trans rfl
  have y1 := (blk_cell F9_.out 1).trans rfl
  have y2 := (blk_cell F9_.out 2).trans rfl
  have y3 := (blk_cell F9_.out 3).trans rfl
  obtain ⟨r, hr⟩ : ∃ r : Bool, Aside0 (∀ w', Below w2.heap.size w2 w' → Calls Try.prog 18 #[(.agg #[.slice P0 d.s.length p0, .slice Q0 d.p.length q0, .int .i64 d.left, .bool d.st])] w' fun e w'' => e = .returned (.bool r) ∧ Below w'.heap.size w' w'') := few_one F6_.out
  cases r with
    | false =>
      go_wp2_with (go_at_call 18; (refine (hr.out _ (Below.refl _ _)).mono ?_); rintro e w3 ⟨rfl, hb⟩; have F10_ := Aside0.mk (DiskF.below F6_.out hb); have F11_ := Aside0.mk (Kd.F_below F7_.out hb); have F12_ := Aside0.mk (below_step F8_.out hb); have F13_ := Aside0.mk (blk_below F9_.out hb); clear F6_ F7_ F8_ F9_; clear hb)
      go_ret
      exact ⟨rfl, F12_.out⟩
    | true =>
      cases hq : decide ((1000 : Int) < (b.length : Int)) with
        | true =>
          go_wp2_with (go_at_call 18; (refine (hr.out _ (Below.refl _ _)).mono ?_); rintro e w3 ⟨rfl, hb⟩; have F10_ := Aside0.mk (DiskF.below F6_.out hb); have F11_ := Aside0.mk (Kd.F_below F7_.out hb); have F12_ := Aside0.mk (below_step F8_.out hb); have F13_ := Aside0.mk (blk_below F9_.out hb); clear F6_ F7_ F8_ F9_; clear hb)
          go_ret
          exact ⟨rfl, F12_.out⟩
        | false =>
          go_upto_region 5 with (go_at_call 18; (refine (hr.out _ (Below.refl _ _)).mono ?_); rintro e w3 ⟨rfl, hb⟩; have F10_ := Aside0.mk (DiskF.below F6_.out hb); have F11_ := Aside0.mk (Kd.F_below F7_.out hb); have F12_ := Aside0.mk (below_step F8_.out hb); have F13_ := Aside0.mk (blk_below F9_.out hb); clear F6_ F7_ F8_ F9_; clear hb)
          clear y0 y1 y2 y3
          clear hr hq
          have y0 := (blk_cell F13_.out 0).trans rfl
          have y1 := (blk_cell F13_.out 1).trans rfl
          have y2 := (blk_cell F13_.out 2).trans rfl
          have y3 := (blk_cell F13_.out 3).trans rfl
          go_upto_region 6 with (go_at_call 24; (refine ((restart_says _ d _ (DiskF.V F10_.out)).mono (fun e w' h => RV.of h)).mono ?_); rintro e w4 ⟨⟨P1, p1, Q1, q1, rfl, hd⟩, hb⟩; have F14_ := Aside0.mk (DiskF.below F10_.out hb); have F15_ := Aside0.mk (Kd.F_below F11_.out hb); have F16_ := Aside0.mk (below_step F12_.out hb); have F17_ := Aside0.mk (blk_below F13_.out hb); clear F10_ F11_ F12_ F13_; have F18_ := Aside0.mk (DiskV.F hd); clear hd hb)
          clear y0 y1 y2 y3
          have F19_ := Aside0.mk (DiskF.below F14_.out (below_alloc (Below.refl _ _) (.cells #[.slice P1 d.s.length p1, .slice Q1 0 q1, .int .i64 (-1), .bool false] 25)))
          have F20_ := Aside0.mk (Kd.F_alloc F15_.out (.cells #[.slice P1 d.s.length p1, .slice Q1 0 q1, .int .i64 (-1), .bool false] 25))
          have F21_ := Aside0.mk (below_alloc F16_.out (.cells #[.slice P1 d.s.length p1, .slice Q1 0 q1, .int .i64 (-1), .bool false] 25))
          have F22_ := Aside0.mk (blk_alloc F17_.out (.cells #[.slice P1 d.s.length p1, .slice Q1 0 q1, .int .i64 (-1), .bool false] 25))
          have F23_ := Aside0.mk (DiskF.below F18_.out (below_alloc (Below.refl _ _) (.cells #[.slice P1 d.s.length p1, .slice Q1 0 q1, .int .i64 (-1), .bool false] 25)))
          clear F14_ F15_ F16_ F17_ F18_
          have F24_ := Aside0.mk (blk_new w4 (.cells #[.slice P1 d.s.length p1, .slice Q1 0 q1, .int .i64 (-1), .bool false] 25))
          generalize w4.alloc (.cells #[.slice P1 d.s.length p1, .slice Q1 0 q1, .int .i64 (-1), .bool false] 25) = w5 at *
          generalize w4.heap.size = b9 at *
          have z0 := (blk_cell F24_.out 0).trans rfl
          have z1 := (blk_cell F24_.out 1).trans rfl
          have z2 := (blk_cell F24_.out 2).trans rfl
          have z3 := (blk_cell F24_.out 3).trans rfl
          go_upto_region 7 with (go_at_call 24; (refine ((restart_says _ (restartD d) _ (DiskF.V F23_.out)).mono (fun e w' h => RV.of (d := d) h)).mono ?_); rintro e w6 ⟨⟨P2, p2, Q2, q2, rfl, hd⟩, hb⟩; have F25_ := Aside0.mk (DiskF.below F19_.out hb); have F26_ := Aside0.mk (Kd.F_below F20_.out hb); have F27_ := Aside0.mk (below_step F21_.out hb); have F28_ := Aside0.mk (blk_below F22_.out hb); have F29_ := Aside0.mk (DiskF.below F23_.out hb); have F30_ := Aside0.mk (blk_below F24_.out hb); clear F19_ F20_ F21_ F22_ F23_ F24_; have F31_ := Aside0.mk (DiskV.F hd); clear hd hb)
          clear z0 z1 z2 z3
          have F32_ := Aside0.mk (DiskF.below F25_.out (below_alloc (Below.refl _ _) (.cells #[.slice P2 d.s.length p2, .slice Q2 0 q2, .int .i64 (-1), .bool false] 25)))
          have F33_ := Aside0.mk (Kd.F_alloc F26_.out (.cells #[.slice P2 d.s.length p2, .slice Q2 0 q2, .int .i64 (-1), .bool false] 25))
          have F34_ := Aside0.mk (below_alloc F27_.out (.cells #[.slice P2 d.s.length p2, .slice Q2 0 q2, .int .i64 (-1), .bool false] 25))
          have F35_ := Aside0.mk (blk_alloc F28_.out (.cells #[.slice P2 d.s.length p2, .slice Q2 0 q2, .int .i64 (-1), .bool false] 25))
          have F36_ := Aside0.mk (DiskF.below F29_.out (below_alloc (Below.refl _ _) (.cells #[.slice P2 d.s.length p2, .slice Q2 0 q2, .int .i64 (-1), .bool false] 25)))
          have F37_ := Aside0.mk (blk_alloc F30_.out (.cells #[.slice P2 d.s.length p2, .slice Q2 0 q2, .int .i64 (-1), .bool false] 25))
          have F38_ := Aside0.mk (DiskF.below F31_.out (below_alloc (Below.refl _ _) (.cells #[.slice P2 d.s.length p2, .slice Q2 0 q2, .int .i64 (-1), .bool false] 25)))
          clear F25_ F26_ F27_ F28_ F29_ F30_ F31_
          have F39_ := Aside0.mk (blk_new w6 (.cells #[.slice P2 d.s.length p2, .slice Q2 0 q2, .int .i64 (-1), .bool false] 25))
          generalize w6.alloc (.cells #[.slice P2 d.s.length p2, .slice Q2 0 q2, .int .i64 (-1), .bool false] 25) = w7 at *
          generalize w6.heap.size = b10 at *
          have z0 := (blk_cell F37_.out 0).trans rfl
          have z1 := (blk_cell F37_.out 1).trans rfl
          have z2 := (blk_cell F37_.out 2).trans rfl
          have z3 := (blk_cell F37_.out 3).trans rfl
          have x0 := (blk_cell F39_.out 0).trans rfl
          have x1 := (blk_cell F39_.out 1).trans rfl
          have x2 := (blk_cell F39_.out 2).trans rfl
          have x3 := (blk_cell F39_.out 3).trans rfl
          have y0 := (blk_cell F35_.out 0).trans rfl
          have y1 := (blk_cell F35_.out 1).trans rfl
          have y2 := (blk_cell F35_.out 2).trans rfl
          have y3 := (blk_cell F35_.out 3).trans rfl
          go_upto_region 9 with (go_at_call 21; (refine (same_says _ _ (restartD d) _ (DiskF.V F36_.out) (DiskF.V F38_.out)).mono ?_); rintro e w8 ⟨rfl, hb⟩; have F40_ := Aside0.mk (DiskF.below F32_.out hb); have F41_ := Aside0.mk (Kd.F_below F33_.out hb); have F42_ := Aside0.mk (below_step F34_.out hb); have F43_ := Aside0.mk (blk_below F35_.out hb); have F44_ := Aside0.mk (DiskF.below F36_.out hb); have F45_ := Aside0.mk (blk_below F37_.out hb); have F46_ := Aside0.mk (DiskF.below F38_.out hb); have F47_ := Aside0.mk (blk_below F39_.out hb); clear F32_ F33_ F34_ F35_ F36_ F37_ F38_ F39_; clear hb; clear x0 x1 x2 x3 y0 y1 y2 y3 z0 z1 z2 z3; have z0 := (blk_cell F45_.out 0).trans rfl; have z1 := (blk_cell F45_.out 1).trans rfl; have z2 := (blk_cell F45_.out 2).trans rfl; have z3 := (blk_cell F45_.out 3).trans rfl; have y0 := (blk_cell F43_.out 0).trans rfl; have y1 := (blk_cell F43_.out 1).trans rfl; have y2 := (blk_cell F43_.out 2).trans rfl; have y3 := (blk_cell F43_.out 3).trans rfl)
          clear y0 y1 y2 y3 z0 z1 z2 z3
          clear F47_ F46_
          go_wp2_with (fail)
          go_loopg [11] d.s.length (fun kq v11 w' => ∃ i : Nat, v11 = .int .i64 i ∧ Aside0 (i ≤ d.s.length ∧ kq + i = d.s.length) ∧ Aside0 (Below w.heap.size w w') ∧ Aside0 (w'.heap[w.heap.size]? = some (.cells #[.slice P0 d.s.length p0, .slice Q0 d.p.length q0, .int .i64 d.left, .bool d.st] 25 (0, 0))) ∧ Aside0 (w'.heap[b9]? = some (.cells #[.slice P1 d.s.length p1, .slice Q1 0 q1, .int .i64 (-1), .bool false] 25 (0, 0))) ∧ Aside0 (DiskF w' (fun k => k < w.heap.size) (.agg #[.slice P0 d.s.length p0, .slice Q0 d.p.length q0, .int .i64 d.left, .bool d.st]) d) ∧ Aside0 (DiskV w' (.agg #[.slice P1 d.s.length p1, .slice Q1 0 q1, .int .i64 (-1), .bool false]) (restartD d)) ∧ Aside0 (Kd.F (Kd.int .u8) w' (fun k => k < w.heap.size) A2 b.length b))
          case atStart => exact ⟨0, rfl, ⟨by omega⟩, ⟨F42_.out⟩, ⟨F43_.out⟩, ⟨F45_.out⟩, ⟨F40_.out⟩, ⟨DiskF.V F44_.out⟩, ⟨F41_.out⟩⟩
          clear F42_ F43_ F45_ F40_ F44_ F41_
          obtain ⟨i, rfl, HI, GB, Gb4, Gb9, Gd, Gx, Gb⟩ := hrel
          have y0 := (blk_cell Gb4.out 0).trans rfl
          have y1 := (blk_cell Gb4.out 1).trans rfl
          have y2 := (blk_cell Gb4.out 2).trans rfl
          have y3 := (blk_cell Gb4.out 3).trans rfl
          have z0 := (blk_cell Gb9.out 0).trans rfl
          have z1 := (blk_cell Gb9.out 1).trans rfl
          have z2 := (blk_cell Gb9.out 2).trans rfl
          have z3 := (blk_cell Gb9.out 3).trans rfl
          by_cases hi : i < d.s.length
          · have hi0 : decide (i < d.s.length) = true := decide_eq_true hi
            have hw := Aside0.mk (show wrap64 ((i : Int) + 1) = ((i + 1 : Nat) : Int) by have := HM0.out; unfold wrap64; omega)
            obtain ⟨ad0, As0, cs0, rfl, ha0, hb0⟩ := sec_get (DiskV.secs (DiskF.V Gd.out)) (i : Int) (by omega) (by omega)
            obtain ⟨ad2, As2, cs2, rfl, ha2, hb2⟩ := sec_get (s := d.s) (DiskV.secs (d := restartD d) Gx.out) (i : Int) (by omega) (by omega)
            have hv0 := conv_drew hb0
            have hv2 := conv_drew hb2
            rw [show ((i : Int)).toNat = i by omega] at ha0 ha2 hv0 hv2
            clear hb0 hb2
            generalize d.s.getD i [] = l at *
            go_wp2_with (fail)
            go_quiet (fail)
            have NB := Aside0.mk (below_step GB.out (pw_below_drewN (Below.refl _ _) nq))
            have Nb4 := Aside0.mk (blk_below Gb4.out (pw_below_drewN (Below.refl _ _) nq))
            have Nb9 := Aside0.mk (blk_below Gb9.out (pw_below_drewN (Below.refl _ _) nq))
            have Nd := Aside0.mk (DiskF.below Gd.out (pw_below_drewN (Below.refl _ _) nq))
            have Nx := Aside0.mk (DiskV.below Gx.out (pw_below_drewN (Below.refl _ _) nq))
            have Nb := Aside0.mk (Kd.F_below Gb.out (pw_below_drewN (Below.refl _ _) nq))
            clear GB Gb4 Gb9 Gd Gx Gb hv0 hv2 ha0 ha2
            generalize wr.drewN nq = w9 at *
            go_wp2
            go_roundg (gk - 1)
            case measure => have := HI.out; omega
            case rel => exact ⟨i + 1, by rw [hw.out], ⟨by have := HI.out; omega⟩, NB, Nb4, Nb9, Nd, Nx, Nb⟩
          · have hi0 : decide (i < d.s.length) = false := decide_eq_false hi
            go_upto_region 14 with (fail)
            clear HI hi hi0 z0 z1 z2 z3
            have yf3 := blk_frozen Gb4.out 3
            go_upto_region 15 with (fail)
            clear yf3
            clear y0 y1 y2 y3
            have NB := Aside0.mk (Below.setCell (p := ⟨w.heap.size, 3, none⟩) GB.out (Nat.le_refl _) (.bool true))
            have Nb4 := Aside0.mk (show (wr.setCell ⟨w.heap.size, 3, none⟩ (.bool true)).heap[w.heap.size]? = some (.cells #[.slice P0 d.s.length p0, .slice Q0 d.p.length q0, .int .i64 d.left, .bool true] 25 (0, 0)) from blk_set Gb4.out 3 (.bool true))
            have Nb := Aside0.mk (Kd.F_far (p := ⟨w.heap.size, 3, none⟩) Gb.out (fun k hk => by dsimp only at hk ⊢; omega) (.bool true))
            have Nd := Aside0.mk (show DiskV (wr.setCell ⟨w.heap.size, 3, none⟩ (.bool true)) (.agg #[.slice P0 d.s.length p0, .slice Q0 d.p.length q0, .int .i64 d.left, .bool true]) (stD d) from by have h_ := DiskF.V (DiskF.far (p := ⟨w.heap.size, 3, none⟩) Gd.out (fun k hk => by dsimp only at hk ⊢; omega) (.bool true)); obtain ⟨X0, x0, X1, x1, he, h1, h2, h3, h4⟩ := h_; cases he; exact ⟨_, _, _, _, rfl, h1, h2, h3, h4⟩)
            replace Nd := Aside0.mk (DiskV.F Nd.out)
            clear GB Gb4 Gd Gb Gx Gb9
            generalize (wr.setCell ⟨w.heap.size, 3, none⟩ (.bool true)) = w10 at *
            have y0 := (blk_cell Nb4.out 0).trans rfl
            have y1 := (blk_cell Nb4.out 1).trans rfl
            have y2 := (blk_cell Nb4.out 2).trans rfl
            have y3 := (blk_cell Nb4.out 3).trans rfl
            go_upto_region 16 with (go_at_call 28; (refine ((read_says _ (stD d) a _ (DiskF.V Nd.out)).mono (fun e w' h => RE.of h (stD_read d a) rfl)).mono ?_); rintro e w11 ⟨⟨A12, c12, rfl, hc12, hd⟩, hb⟩; have F48_ := Aside0.mk (below_step NB.out hb); have F49_ := Aside0.mk (blk_below Nb4.out hb); have F50_ := Aside0.mk (DiskF.below Nd.out hb); have F51_ := Aside0.mk (Kd.F_below Nb.out hb); clear NB Nb4 Nd Nb; clear hd hb hc12)
            clear y0 y1 y2 y3
            have y0 := (blk_cell F49_.out 0).trans rfl
            have y1 := (blk_cell F49_.out 1).trans rfl
            have y2 := (blk_cell F49_.out 2).trans rfl
            have y3 := (blk_cell F49_.out 3).trans rfl
            go_upto_region 17 with (go_at_call 26; (refine ((write_says _ _ (stD d) a b _ (DiskF.V F50_.out) ⟨A2, c2, rfl, hc2.out, Kd.F_now F51_.out⟩).mono (fun e w' h => DE.of h (stD_write d a b))).mono ?_); rintro e w12 ⟨⟨P5, p5, Q5, q5, rfl, hd⟩, hb⟩; have F52_ := Aside0.mk (below_step F48_.out hb); have F53_ := Aside0.mk (blk_below F49_.out hb); have F54_ := Aside0.mk (DiskF.below F50_.out hb); have F55_ := Aside0.mk (Kd.F_below F51_.out hb); clear F48_ F49_ F50_ F51_; clear hd hb)
            clear y0 y1 y2 y3
            have F56_ := Aside0.mk (below_alloc F52_.out (.cells #[.slice P5 zeroD.s.length p5, .slice Q5 zeroD.p.length q5, .int .i64 zeroD.left, .bool zeroD.st] 25))
            have F57_ := Aside0.mk (blk_alloc F53_.out (.cells #[.slice P5 zeroD.s.length p5, .slice Q5 zeroD.p.length q5, .int .i64 zeroD.left, .bool zeroD.st] 25))
            have F58_ := Aside0.mk (DiskF.below F54_.out (below_alloc (Below.refl _ _) (.cells #[.slice P5 zeroD.s.length p5, .slice Q5 zeroD.p.length q5, .int .i64 zeroD.left, .bool zeroD.st] 25)))
            have F59_ := Aside0.mk (Kd.F_alloc F55_.out (.cells #[.slice P5 zeroD.s.length p5, .slice Q5 zeroD.p.length q5, .int .i64 zeroD.left, .bool zeroD.st] 25))
            clear F52_ F53_ F54_ F55_
            have F60_ := Aside0.mk (blk_new w12 (.cells #[.slice P5 zeroD.s.length p5, .slice Q5 zeroD.p.length q5, .int .i64 zeroD.left, .bool zeroD.st] 25))
            generalize w12.alloc (.cells #[.slice P5 zeroD.s.length p5, .slice Q5 zeroD.p.length q5, .int .i64 zeroD.left, .bool zeroD.st] 25) = w13 at *
            generalize w12.heap.size = b14 at *
            clear F60_ F59_
            have y0 := (blk_cell F57_.out 0).trans rfl
            have y1 := (blk_cell F57_.out 1).trans rfl
            have y2 := (blk_cell F57_.out 2).trans rfl
            have y3 := (blk_cell F57_.out 3).trans rfl
            go_upto_region 18 with (go_at_call 30; (refine ((sync_says _ (stD d) _ (DiskF.V F58_.out)).mono (fun e w' h => DE.of h (stD_sync d))).mono ?_); rintro e w14 ⟨⟨P6, p6, Q6, q6, rfl, hd⟩, hb⟩; have F61_ := Aside0.mk (below_step F56_.out hb); have F62_ := Aside0.mk (blk_below F57_.out hb); have F63_ := Aside0.mk (DiskF.below F58_.out hb); clear F56_ F57_ F58_; clear hd hb)
            clear y0 y1 y2 y3
            have F64_ := Aside0.mk (below_alloc F61_.out (.cells #[.slice P6 zeroD.s.length p6, .slice Q6 zeroD.p.length q6, .int .i64 zeroD.left, .bool zeroD.st] 25))
            have F65_ := Aside0.mk (blk_alloc F62_.out (.cells #[.slice P6 zeroD.s.length p6, .slice Q6 zeroD.p.length q6, .int .i64 zeroD.left, .bool zeroD.st] 25))
            have F66_ := Aside0.mk (DiskF.below F63_.out (below_alloc (Below.refl _ _) (.cells #[.slice P6 zeroD.s.length p6, .slice Q6 zeroD.p.length q6, .int .i64 zeroD.left, .bool zeroD.st] 25)))
            clear F61_ F62_ F63_
            have F67_ := Aside0.mk (blk_new w14 (.cells #[.slice P6 zeroD.s.length p6, .slice Q6 zeroD.p.length q6, .int .i64 zeroD.left, .bool zeroD.st] 25))
            generalize w14.alloc (.cells #[.slice P6 zeroD.s.length p6, .slice Q6 zeroD.p.length q6, .int .i64 zeroD.left, .bool zeroD.st] 25) = w15 at *
            generalize w14.heap.size = b16 at *
            clear F67_
            have y0 := (blk_cell F65_.out 0).trans rfl
            have y1 := (blk_cell F65_.out 1).trans rfl
            have y2 := (blk_cell F65_.out 2).trans rfl
            have y3 := (blk_cell F65_.out 3).trans rfl
            go_wp2_with (go_at_call 32; (refine ((stop_says _ (stD d) n _ (DiskF.V F66_.out)).mono (fun e w' h => DE.of h (stD_stop d n))).mono ?_); rintro e w16 ⟨⟨P7, p7, Q7, q7, rfl, hd⟩, hb⟩; have F68_ := Aside0.mk (below_step F64_.out hb); have F69_ := Aside0.mk (blk_below F65_.out hb); have F70_ := Aside0.mk (DiskF.below F66_.out hb); clear F64_ F65_ F66_; clear hd hb)
            go_ret
            exact ⟨rfl, below_alloc F68_.out _⟩
theorem stopped_says (v v2 : Value) (d : Dk) (a n : Int) (b : List Int) (w : World) (h : DiskV w v d) (h2 : BytesV w v2 b) : Calls Try.prog 11 #[v, .int .i64 a, .int .i64 n, v2] w fun e w' => e = .returned (.bool true) ∧ Below w.heap.size w w' := by
  have h3 := h
  have h4 := h2
  obtain ⟨P0, p0, Q0, q0, rfl, -⟩ := h3
  obtain ⟨A2, c2, rfl, -⟩ := h4
  exact stopped_walk P0 p0 Q0 q0 d a n A2 c2 b w h h2
end Go.Proofs.Ytlnmjgkeiljniaa.Q
/- DiskReads: the plain law. -/
namespace Go.Proofs.Ytlnmjgkeiljniaa.Q
open Go.RowKit Go.Proofs.YtlnmjgkeiljniaaW.PrintWords Go.Proofs.YtlnmjgkeiljniaaW.PrintLast Go.Proofs.YtlnmjgkeiljniaaW.PrintMore
set_option linter.unusedVariables false
set_option linter.unusedSimpArgs false
theorem perform_get (s : List (List Int)) (p : List S76) (k : Nat) (hk : k < s.length) (hp : ∀ x ∈ p, 0 ≤ x.f0) : (performD s p).getD k [] = lastD p (k : Int) (s.getD k []) := by
  unfold performD
  induction p generalizing s with
  | nil => rfl
  | cons x p ih =>
    have h0 := hp x List.mem_cons_self
    rw [List.foldl_cons, ih _ (by rw [List.length_set]; exact hk) (fun y hy => hp y (List.mem_cons_of_mem _ hy))]
    show _ = lastD p (k : Int) (if x.f0 = (k : Int) then x.f1 else s.getD k [])
    congr 1
    by_cases h : x.f0 = (k : Int)
    · rw [if_pos h, show x.f0.toNat = k by omega]
      simp [List.getD_eq_getElem?_getD, hk]
    · rw [if_neg h]
      simp only [List.getD_eq_getElem?_getD]
      rw [List.getElem?_set_ne (by omega)]
theorem runs_mk {d : Dk} (h0 : 1 ≤ d.s.length) (h1 : d.s.length ≤ 4096) (h2 : d.p.length ≤ 4096) (h3 : -1 ≤ d.left) (h4 : d.left ≤ 65536) (h5 : ∀ x ∈ d.p, 0 ≤ x.f0 ∧ x.f0 < d.s.length ∧ x.f1.length = 128) (h6 : ∀ b ∈ d.s, b.length = 128) (h7 : d.st = false) : runsD d = true := by
  unfold runsD okD numsD
  rw [h7]
  simp only [Bool.and_eq_true, Bool.not_eq_true', Bool.or_eq_false_iff, decide_eq_false_iff_not, List.any_eq_false, Bool.not_false, and_true]
  refine ⟨⟨by omega, by omega, by omega, by omega, by omega⟩, fun x hx => ?_, fun b hb => ?_⟩
  · have := h5 x hx
    unfold badW secB
    simp only [Bool.or_eq_true, decide_eq_true_eq, Bool.not_eq_true', beq_eq_false_iff_ne, not_or]
    omega
  · have := h6 b hb
    unfold secB
    simp only [Bool.not_eq_true', beq_eq_false_iff_ne]
    omega
theorem has_nat {d : Dk} {a : Int} (h : hasD d a = true) : 0 ≤ a ∧ a < d.s.length := by unfold hasD at h; simpa using h
theorem has_mk {d : Dk} {a : Int} (h0 : 0 ≤ a) (h1 : a < d.s.length) : hasD d a = true := by unfold hasD; simp [h0, h1]
theorem read_ok {d : Dk} {a : Int} {u : List Int} (h : readD d a = (u, 0)) : runsD d = true ∧ hasD d a = true ∧ u = lastD d.p a (d.s.getD a.toNat []) := by
  unfold readD at h
  split at h
  · rename_i hg
    cases h
    exact ⟨hg.1, hg.2, rfl⟩
  · cases h
theorem read_two {d : Dk} (a : Int) : ∃ u, (readD d a = (u, 0) ∨ (readD d a = ([], 450) ∧ u = [])) := by
  unfold readD
  split
  · exact ⟨_, .inl rfl⟩
  · exact ⟨[], .inr ⟨rfl, rfl⟩⟩
theorem write_ok {d x : Dk} {a : Int} {b : List Int} (h : writeD d a b = (x, 0)) : runsD d = true ∧ hasD d a = true ∧ b.length ≤ 128 ∧ d.p.length ≠ 4096 ∧ x = ⟨d.s, d.p ++ [⟨a, pad b⟩], d.left, d.st⟩ := by
  unfold writeD at h
  split at h
  · cases h
  · rename_i hg
    split at h
    · cases h
    · rename_i hl
      split at h
      · cases h
      · rename_i hp
        cases h
        have hg2 := Classical.not_not.1 hg
        exact ⟨hg2.1, hg2.2, by omega, hp, rfl⟩
theorem write_four {d : Dk} (a : Int) (b : List Int) : ∃ x e, writeD d a b = (x, e) ∧ (e = 0 ∨ e = 1 ∨ e = 2 ∨ e = 450) := by
  unfold writeD
  split
  · exact ⟨_, _, rfl, .inr (.inr (.inr rfl))⟩
  · split
    · exact ⟨_, _, rfl, .inr (.inl rfl)⟩
    · split
      · exact ⟨_, _, rfl, .inr (.inr (.inl rfl))⟩
      · exact ⟨_, _, rfl, .inl rfl⟩
/-- a disk that was written to goes on -/
theorem write_runs {d x : Dk} {a : Int} {b : List Int} (h : writeD d a b = (x, 0)) : runsD x = true ∧ x.s = d.s := by
  obtain ⟨hr, hh, hb, hp, rfl⟩ := write_ok h
  obtain ⟨h1, h2, h3, h4, h5, h6, h7⟩ := runs_ok hr
  have ha := has_nat hh
  refine ⟨runs_mk h5 h1 (by simp only [List.length_append, List.length_singleton]; omega) h3 h4 (fun y hy => ?_) h7 (is_run hr).2.1, rfl⟩
  rcases List.mem_append.1 hy with hy | hy
  · exact h6 y hy
  · rw [List.mem_singleton.1 hy]
    exact ⟨ha.1, ha.2, pad_len b hb⟩
theorem write_read {d x : Dk} {a o : Int} {b u : List Int} (h : writeD d a b = (x, 0)) (hu : readD d o = (u, 0)) : readD x o = (if a = o then pad b else u, 0) := by
  have hx := write_runs h
  obtain ⟨hr, hh, hb, hp, rfl⟩ := write_ok h
  obtain ⟨-, hh2, rfl⟩ := read_ok hu
  unfold readD
  rw [if_pos ⟨hx.1, has_mk (has_nat hh2).1 (has_nat hh2).2⟩, lastD_snoc]
theorem write_mine {d x : Dk} {a : Int} {b : List Int} (h : writeD d a b = (x, 0)) : readD x a = (pad b, 0) := by
  have hx := write_runs h
  obtain ⟨hr, hh, hb, hp, rfl⟩ := write_ok h
  unfold readD
  rw [if_pos ⟨hx.1, has_mk (has_nat hh).1 (has_nat hh).2⟩, lastD_snoc, if_pos rfl]
theorem write_again {d x y : Dk} {a o : Int} {b c u : List Int} {i : Int} (h : writeD d a b = (x, 0)) (hu : readD d o = (u, 0)) (hc : c.length ≤ 128) (hy : writeD x o c = (y, i)) : i = 0 ∨ i = 2 := by
  have hx := write_runs h
  obtain ⟨-, hh2, -⟩ := read_ok hu
  have hh3 : hasD x o = true := has_mk (has_nat hh2).1 (by rw [hx.2]; exact (has_nat hh2).2)
  unfold writeD at hy
  rw [if_neg (fun hn => hn ⟨hx.1, hh3⟩), if_neg (by omega)] at hy
  split at hy <;> cases hy
  · exact .inr rfl
  · exact .inl rfl
/-- what is behind a sync -/
theorem sync_two {y z : Dk} {j : Int} (hr : runsD y = true) (h : syncD y = (z, j)) : (j = 450 ∧ z.st = true) ∨ (j = 0 ∧ z.p = [] ∧ checkD z = 0 ∧ ∀ k : Nat, k < y.s.length → ∃ u, readD y k = (u, 0) ∧ readD z k = (u, 0)) := by
  unfold syncD at h
  rw [if_pos hr] at h
  split at h
  · cases h
    exact .inl ⟨rfl, rfl⟩
  · rename_i hl
    cases h
    obtain ⟨h1, h2, h3, h4, h5, h6, h7⟩ := runs_ok hr
    have hz : runsD ⟨performD y.s y.p, [], if 0 ≤ y.left then y.left - y.p.length else y.left, false⟩ = true := by
      refine runs_mk (by simp only [performD_len]; omega) (by simp only [performD_len]; omega) (Nat.zero_le _) ?_ ?_ (fun x hx => by cases hx) (performD_all y.s y.p h7 (fun x hx => (h6 x hx).2.2)) rfl
      · simp only
        split <;> omega
      · simp only
        split <;> omega
    refine .inr ⟨rfl, rfl, (is_run hz).1, fun k hk => ⟨lastD y.p k (y.s.getD k []), ?_, ?_⟩⟩
    · unfold readD
      rw [if_pos ⟨hr, has_mk (by omega) (by omega)⟩, show ((k : Int)).toNat = k by omega]
    · unfold readD
      rw [if_pos ⟨hz, has_mk (by omega) (by simp only [performD_len]; omega)⟩, show ((k : Int)).toNat = k by omega, perform_get y.s y.p k hk (fun x hx => (h6 x hx).1)]
      rfl
end Go.Proofs.Ytlnmjgkeiljniaa.Q
/- sizarlaw45.DiskReads, walked. -/
namespace Go.Proofs.Ytlnmjgkeiljniaa.Q
open Go.RowKit Go.Proofs.YtlnmjgkeiljniaaW.PrintWords Go.Proofs.YtlnmjgkeiljniaaW.PrintLast Go.Proofs.YtlnmjgkeiljniaaW.PrintMore
set_option linter.unusedVariables false
set_option linter.unusedSimpArgs false
theorem pad_take (b : List Int) : (pad b).take b.length = b := by unfold pad; rw [List.take_left']; rfl
theorem conv_take {W : World} {ok : Nat → Prop} {ad : Addr} {c : Nat} {b m : List Int} (h : Kd.F (Kd.int .u8) W ok (some ad) 128 m) (hm : m = pad b) (hb : b.length ≤ 128) : ∀ n, (convert 35 9 (.slice (some ad) b.length c)).run Try.prog (W.drewN n) = .ok (.string (strOfNums b)) (W.drewN n) := by
  intro n
  subst hm
  have hC := Kd.F_now (Kd.F_drewN h n)
  have hl := pad_len b hb
  rw [← hl] at hC
  have h2 := Kd.C_take hC (show b.length ≤ (pad b).length by omega)
  rw [pad_take] at h2
  exact Kd.C_string Try.underlying35 Try.underlying5 Try.underlying9 h2
theorem conv_all {W : World} {ok : Nat → Prop} {A : Option Addr} {c : Nat} {b : List Int} (h : Kd.F (Kd.int .u8) W ok A b.length b) : ∀ n, (convert 35 9 (.slice A b.length c)).run Try.prog (W.drewN n) = .ok (.string (strOfNums b)) (W.drewN n) := fun n =>
  Kd.C_string Try.underlying35 Try.underlying5 Try.underlying9 (Kd.F_now (Kd.F_drewN h n))
set_option maxHeartbeats 8000000 in
set_option maxRecDepth 100000 in
theorem reads_long1 (P0 : Option Addr) (p0 : Nat) (Q0 : Option Addr) (q0 : Nat) (d : Dk) (a o : Int) (A3 : Option Addr) (c3 : Nat) (b : List Int) (A4 : Option Addr) (c4 : Nat) (c : List Int) (w : World) (h : DiskV w (.agg #[.slice P0 d.s.length p0, .slice Q0 d.p.length q0, .int .i64 d.left, .bool d.st]) d) (h2 : BytesV w (.slice A3 b.length c3) b) (h4 : BytesV w (.slice A4 c.length c4) c) (hl : 128 < b.length) : Calls Try.prog 8 #[(.agg #[.slice P0 d.s.length p0, .slice Q0 d.p.length q0, .int .i64 d.left, .bool d.st]), .int .i64 a, .int .i64 o, .slice A3 b.length c3, .slice A4 c.length c4] w fun e w' => e = .returned (.bool true) ∧ Below w.heap.size w w' := by
  have hu25 := Try.underlying25
  have D0 := Aside0.mk (DiskV.F h)
  have HM0 := Aside0.mk (show d.s.length ≤ 9223372036854775807 by obtain ⟨A0, c0, A1, c1, -, -, -, hC, -⟩ := h; exact hC.2.1)
  obtain ⟨A_, c_, he, hc3, hC_⟩ := h2
  cases he
  replace hc3 := Aside0.mk hc3
  have E0 := Aside0.mk (Kd.C_F (Kd.heap_int .u8) hC_)
  clear hC_
  obtain ⟨A_, c_, he, hc4, hC_⟩ := h4
  cases he
  replace hc4 := Aside0.mk hc4
  have E1 := Aside0.mk (Kd.C_F (Kd.heap_int .u8) hC_)
  clear hC_
  have F1_ := Aside0.mk (Below.refl w.heap.size w)
  clear h
  go_enter Try.func8, Try.ntmps8
  go_upto_region 1 with (fail)
  have F2_ := Aside0.mk (DiskF.below D0.out (below_alloc (Below.refl _ _) (.cells #[.slice P0 d.s.length p0, .slice Q0 d.p.length q0, .int .i64 d.left, .bool d.st] 25)))
  have F3_ := Aside0.mk (Kd.F_alloc E0.out (.cells #[.slice P0 d.s.length p0, .slice Q0 d.p.length q0, .int .i64 d.left, .bool d.st] 25))
  have F4_ := Aside0.mk (Kd.F_alloc E1.out (.cells #[.slice P0 d.s.length p0, .slice Q0 d.p.length q0, .int .i64 d.left, .bool d.st] 25))
  have F5_ := Aside0.mk (below_alloc F1_.out (.cells #[.slice P0 d.s.length p0, .slice Q0 d.p.length q0, .int .i64 d.left, .bool d.st] 25))
  clear D0 E0 E1 F1_
  have F6_ := Aside0.mk (blk_new w (.cells #[.slice P0 d.s.length p0, .slice Q0 d.p.length q0, .int .i64 d.left, .bool d.st] 25))
  generalize w.alloc (.cells #[.slice P0 d.s.length p0, .slice Q0 d.p.length q0, .int .i64 d.left, .bool d.st] 25) = w1 at *
  go_upto_region 3 with (go_at_call 17; (refine (sane_says _).mono ?_); rintro e w2 ⟨rfl, hb⟩; have F7_ := Aside0.mk (DiskF.below F2_.out hb); have F8_ := Aside0.mk (Kd.F_below F3_.out hb); have F9_ := Aside0.mk (Kd.F_below F4_.out hb); have F10_ := Aside0.mk (below_step F5_.out hb); have F11_ := Aside0.mk (blk_below F6_.out hb); clear F2_ F3_ F4_ F5_ F6_; clear hb)
  have y0 := (blk_cell F11_.out 0).trans rfl
  have y1 := (blk_cell F11_.out 1).trans rfl
  have y2 := (blk_cell F11_.out 2).trans rfl
  have y3 := (blk_cell F11_.out 3).trans rfl
  obtain ⟨r, hr⟩ : ∃ r : Bool, Aside0 (∀ w', Below w2.heap.size w2 w' → Calls Try.prog 18 #[(.agg #[.slice P0 d.s.length p0, .slice Q0 d.p.length q0, .int .i64 d.left, .bool d.st])] w' fun e w'' => e = .returned (.bool r) ∧ Below w'.heap.size w' w'') := few_one F7_.out
  cases r with
    | false =>
      go_wp2_with (go_at_call 18; (refine (hr.out _ (Below.refl _ _)).mono ?_); rintro e w3 ⟨rfl, hb⟩; have F12_ := Aside0.mk (DiskF.below F7_.out hb); have F13_ := Aside0.mk (Kd.F_below F8_.out hb); have F14_ := Aside0.mk (Kd.F_below F9_.out hb); have F15_ := Aside0.mk (below_step F10_.out hb); have F16_ := Aside0.mk (blk_below F11_.out hb); clear F7_ F8_ F9_ F10_ F11_; clear hb)
      go_ret
      exact ⟨rfl, F15_.out⟩
    | true =>
      have q1 : decide ((128 : Int) < (b.length : Int)) = true := decide_eq_true (by omega)
      go_wp2_with (go_at_call 18; (refine (hr.out _ (Below.refl _ _)).mono ?_); rintro e w3 ⟨rfl, hb⟩; have F12_ := Aside0.mk (DiskF.below F7_.out hb); have F13_ := Aside0.mk (Kd.F_below F8_.out hb); have F14_ := Aside0.mk (Kd.F_below F9_.out hb); have F15_ := Aside0.mk (below_step F10_.out hb); have F16_ := Aside0.mk (blk_below F11_.out hb); clear F7_ F8_ F9_ F10_ F11_; clear hb)
      go_ret
      exact ⟨rfl, F15_.out⟩
set_option maxHeartbeats 8000000 in
set_option maxRecDepth 100000 in
theorem reads_long2 (P0 : Option Addr) (p0 : Nat) (Q0 : Option Addr) (q0 : Nat) (d : Dk) (a o : Int) (A3 : Option Addr) (c3 : Nat) (b : List Int) (A4 : Option Addr) (c4 : Nat) (c : List Int) (w : World) (h : DiskV w (.agg #[.slice P0 d.s.length p0, .slice Q0 d.p.length q0, .int .i64 d.left, .bool d.st]) d) (h2 : BytesV w (.slice A3 b.length c3) b) (h4 : BytesV w (.slice A4 c.length c4) c) (hl : ¬ 128 < b.length) (hl2 : 128 < c.length) : Calls Try.prog 8 #[(.agg #[.slice P0 d.s.length p0, .slice Q0 d.p.length q0, .int .i64 d.left, .bool d.st]), .int .i64 a, .int .i64 o, .slice A3 b.length c3, .slice A4 c.length c4] w fun e w' => e = .returned (.bool true) ∧ Below w.heap.size w w' := by
  have hu25 := Try.underlying25
  have D0 := Aside0.mk (DiskV.F h)
  have HM0 := Aside0.mk (show d.s.length ≤ 9223372036854775807 by obtain ⟨A0, c0, A1, c1, -, -, -, hC, -⟩ := h; exact hC.2.1)
  obtain ⟨A_, c_, he, hc3, hC_⟩ := h2
  cases he
  replace hc3 := Aside0.mk hc3
  have E0 := Aside0.mk (Kd.C_F (Kd.heap_int .u8) hC_)
  clear hC_
  obtain ⟨A_, c_, he, hc4, hC_⟩ := h4
  cases he
  replace hc4 := Aside0.mk hc4
  have E1 := Aside0.mk (Kd.C_F (Kd.heap_int .u8) hC_)
  clear hC_
  have F1_ := Aside0.mk (Below.refl w.heap.size w)
  clear h
  go_enter Try.func8, Try.ntmps8
  go_upto_region 1 with (fail)
  have F2_ := Aside0.mk (DiskF.below D0.out (below_alloc (Below.refl _ _) (.cells #[.slice P0 d.s.length p0, .slice Q0 d.p.length q0, .int .i64 d.left, .bool d.st] 25)))
  have F3_ := Aside0.mk (Kd.F_alloc E0.out (.cells #[.slice P0 d.s.length p0, .slice Q0 d.p.length q0, .int .i64 d.left, .bool d.st] 25))
  have F4_ := Aside0.mk (Kd.F_alloc E1.out (.cells #[.slice P0 d.s.length p0, .slice Q0 d.p.length q0, .int .i64 d.left, .bool d.st] 25))
  have F5_ := Aside0.mk (below_alloc F1_.out (.cells #[.slice P0 d.s.length p0, .slice Q0 d.p.length q0, .int .i64 d.left, .bool d.st] 25))
  clear D0 E0 E1 F1_
  have F6_ := Aside0.mk (blk_new w (.cells #[.slice P0 d.s.length p0, .slice Q0 d.p.length q0, .int .i64 d.left, .bool d.st] 25))
  generalize w.alloc (.cells #[.slice P0 d.s.length p0, .slice Q0 d.p.length q0, .int .i64 d.left, .bool d.st] 25) = w1 at *
  go_upto_region 3 with (go_at_call 17; (refine (sane_says _).mono ?_); rintro e w2 ⟨rfl, hb⟩; have F7_ := Aside0.mk (DiskF.below F2_.out hb); have F8_ := Aside0.mk (Kd.F_below F3_.out hb); have F9_ := Aside0.mk (Kd.F_below F4_.out hb); have F10_ := Aside0.mk (below_step F5_.out hb); have F11_ := Aside0.mk (blk_below F6_.out hb); clear F2_ F3_ F4_ F5_ F6_; clear hb)
  have y0 := (blk_cell F11_.out 0).trans rfl
  have y1 := (blk_cell F11_.out 1).trans rfl
  have y2 := (blk_cell F11_.out 2).trans rfl
  have y3 := (blk_cell F11_.out 3).trans rfl
  obtain ⟨r, hr⟩ : ∃ r : Bool, Aside0 (∀ w', Below w2.heap.size w2 w' → Calls Try.prog 18 #[(.agg #[.slice P0 d.s.length p0, .slice Q0 d.p.length q0, .int .i64 d.left, .bool d.st])] w' fun e w'' => e = .returned (.bool r) ∧ Below w'.heap.size w' w'') := few_one F7_.out
  cases r with
    | false =>
      go_wp2_with (go_at_call 18; (refine (hr.out _ (Below.refl _ _)).mono ?_); rintro e w3 ⟨rfl, hb⟩; have F12_ := Aside0.mk (DiskF.below F7_.out hb); have F13_ := Aside0.mk (Kd.F_below F8_.out hb); have F14_ := Aside0.mk (Kd.F_below F9_.out hb); have F15_ := Aside0.mk (below_step F10_.out hb); have F16_ := Aside0.mk (blk_below F11_.out hb); clear F7_ F8_ F9_ F10_ F11_; clear hb)
      go_ret
      exact ⟨rfl, F15_.out⟩
    | true =>
      have q1 : decide ((128 : Int) < (b.length : Int)) = false := decide_eq_false (by omega)
      have q2 : decide ((128 : Int) < (c.length : Int)) = true := decide_eq_true (by omega)
      go_wp2_with (go_at_call 18; (refine (hr.out _ (Below.refl _ _)).mono ?_); rintro e w3 ⟨rfl, hb⟩; have F12_ := Aside0.mk (DiskF.below F7_.out hb); have F13_ := Aside0.mk (Kd.F_below F8_.out hb); have F14_ := Aside0.mk (Kd.F_below F9_.out hb); have F15_ := Aside0.mk (below_step F10_.out hb); have F16_ := Aside0.mk (blk_below F11_.out hb); clear F7_ F8_ F9_ F10_ F11_; clear hb)
      go_ret
      exact ⟨rfl, F15_.out⟩
set_option maxHeartbeats 8000000 in
set_option maxRecDepth 100000 in
theorem reads_no (P0 : Option Addr) (p0 : Nat) (Q0 : Option Addr) (q0 : Nat) (d : Dk) (a o : Int) (A3 : Option Addr) (c3 : Nat) (b : List Int) (A4 : Option Addr) (c4 : Nat) (c : List Int) (w : World) (h : DiskV w (.agg #[.slice P0 d.s.length p0, .slice Q0 d.p.length q0, .int .i64 d.left, .bool d.st]) d) (h2 : BytesV w (.slice A3 b.length c3) b) (h4 : BytesV w (.slice A4 c.length c4) c) (hl : ¬ 128 < b.length) (hl2 : ¬ 128 < c.length) (hno : ¬ ∃ U X, readD d o = (U, 0) ∧ writeD d a b = (X, 0)) : Calls Try.prog 8 #[(.agg #[.slice P0 d.s.length p0, .slice Q0 d.p.length q0, .int .i64 d.left, .bool d.st]), .int .i64 a, .int .i64 o, .slice A3 b.length c3, .slice A4 c.length c4] w fun e w' => e = .returned (.bool true) ∧ Below w.heap.size w w' := by
  have hu25 := Try.underlying25
  have D0 := Aside0.mk (DiskV.F h)
  have HM0 := Aside0.mk (show d.s.length ≤ 9223372036854775807 by obtain ⟨A0, c0, A1, c1, -, -, -, hC, -⟩ := h; exact hC.2.1)
  obtain ⟨A_, c_, he, hc3, hC_⟩ := h2
  cases he
  replace hc3 := Aside0.mk hc3
  have E0 := Aside0.mk (Kd.C_F (Kd.heap_int .u8) hC_)
  clear hC_
  obtain ⟨A_, c_, he, hc4, hC_⟩ := h4
  cases he
  replace hc4 := Aside0.mk hc4
  have E1 := Aside0.mk (Kd.C_F (Kd.heap_int .u8) hC_)
  clear hC_
  have F1_ := Aside0.mk (Below.refl w.heap.size w)
  clear h
  go_enter Try.func8, Try.ntmps8
  go_upto_region 1 with (fail)
  have F2_ := Aside0.mk (DiskF.below D0.out (below_alloc (Below.refl _ _) (.cells #[.slice P0 d.s.length p0, .slice Q0 d.p.length q0, .int .i64 d.left, .bool d.st] 25)))
  have F3_ := Aside0.mk (Kd.F_alloc E0.out (.cells #[.slice P0 d.s.length p0, .slice Q0 d.p.length q0, .int .i64 d.left, .bool d.st] 25))
  have F4_ := Aside0.mk (Kd.F_alloc E1.out (.cells #[.slice P0 d.s.length p0, .slice Q0 d.p.length q0, .int .i64 d.left, .bool d.st] 25))
  have F5_ := Aside0.mk (below_alloc F1_.out (.cells #[.slice P0 d.s.length p0, .slice Q0 d.p.length q0, .int .i64 d.left, .bool d.st] 25))
  clear D0 E0 E1 F1_
  have F6_ := Aside0.mk (blk_new w (.cells #[.slice P0 d.s.length p0, .slice Q0 d.p.length q0, .int .i64 d.left, .bool d.st] 25))
  generalize w.alloc (.cells #[.slice P0 d.s.length p0, .slice Q0 d.p.length q0, .int .i64 d.left, .bool d.st] 25) = w1 at *
  go_upto_region 3 with (go_at_call 17; (refine (sane_says _).mono ?_); rintro e w2 ⟨rfl, hb⟩; have F7_ := Aside0.mk (DiskF.below F2_.out hb); have F8_ := Aside0.mk (Kd.F_below F3_.out hb); have F9_ := Aside0.mk (Kd.F_below F4_.out hb); have F10_ := Aside0.mk (below_step F5_.out hb); have F11_ := Aside0.mk (blk_below F6_.out hb); clear F2_ F3_ F4_ F5_ F6_; clear hb)
  have y0 := (blk_cell F11_.out 0).trans rfl
  have y1 := (blk_cell F11_.out 1).trans rfl
  have y2 := (blk_cell F11_.out 2).trans rfl
  have y3 := (blk_cell F11_.out 3).trans rfl
  obtain ⟨r, hr⟩ : ∃ r : Bool, Aside0 (∀ w', Below w2.heap.size w2 w' → Calls Try.prog 18 #[(.agg #[.slice P0 d.s.length p0, .slice Q0 d.p.length q0, .int .i64 d.left, .bool d.st])] w' fun e w'' => e = .returned (.bool r) ∧ Below w'.heap.size w' w'') := few_one F7_.out
  cases r with
    | false =>
      go_wp2_with (go_at_call 18; (refine (hr.out _ (Below.refl _ _)).mono ?_); rintro e w3 ⟨rfl, hb⟩; have F12_ := Aside0.mk (DiskF.below F7_.out hb); have F13_ := Aside0.mk (Kd.F_below F8_.out hb); have F14_ := Aside0.mk (Kd.F_below F9_.out hb); have F15_ := Aside0.mk (below_step F10_.out hb); have F16_ := Aside0.mk (blk_below F11_.out hb); clear F7_ F8_ F9_ F10_ F11_; clear hb)
      go_ret
      exact ⟨rfl, F15_.out⟩
    | true =>
      have q1 : decide ((128 : Int) < (b.length : Int)) = false := decide_eq_false (by omega)
      have q2 : decide ((128 : Int) < (c.length : Int)) = false := decide_eq_false (by omega)
      replace hno := Aside0.mk hno
      clear hl hl2
      go_upto_region 5 with (go_at_call 18; (refine (hr.out _ (Below.refl _ _)).mono ?_); rintro e w3 ⟨rfl, hb⟩; have F12_ := Aside0.mk (DiskF.below F7_.out hb); have F13_ := Aside0.mk (Kd.F_below F8_.out hb); have F14_ := Aside0.mk (Kd.F_below F9_.out hb); have F15_ := Aside0.mk (below_step F10_.out hb); have F16_ := Aside0.mk (blk_below F11_.out hb); clear F7_ F8_ F9_ F10_ F11_; clear hb)
      clear y0 y1 y2 y3
      have y0 := (blk_cell F16_.out 0).trans rfl
      have y1 := (blk_cell F16_.out 1).trans rfl
      have y2 := (blk_cell F16_.out 2).trans rfl
      have y3 := (blk_cell F16_.out 3).trans rfl
      clear q1 q2
      obtain ⟨U, hU⟩ := read_two (d := d) o
      obtain ⟨X, E, hX, hE⟩ := write_four (d := d) a b
      replace hX := Aside0.mk hX
      rcases hU with hU | ⟨hU, rfl⟩
      · replace hU := Aside0.mk hU
        rcases hE with rfl | rfl | rfl | rfl
        · exact absurd ⟨U, X, hU.out, hX.out⟩ hno.out
        · skip
          go_wp2_with (first | (go_at_call 28; (refine ((read_says _ d o _ (DiskF.V F12_.out)).mono (fun e w' h => RE.of h hU.out rfl)).mono ?_); rintro e w4 ⟨⟨A11, c11, rfl, hc11, hd⟩, hb⟩; have F17_ := Aside0.mk (DiskF.below F12_.out hb); have F18_ := Aside0.mk (Kd.F_below F13_.out hb); have F19_ := Aside0.mk (Kd.F_below F14_.out hb); have F20_ := Aside0.mk (below_step F15_.out hb); have F21_ := Aside0.mk (blk_below F16_.out hb); clear F12_ F13_ F14_ F15_ F16_; clear hd hb hc11; clear y0 y1 y2 y3; have y0 := (blk_cell F21_.out 0).trans rfl; have y1 := (blk_cell F21_.out 1).trans rfl; have y2 := (blk_cell F21_.out 2).trans rfl; have y3 := (blk_cell F21_.out 3).trans rfl) | (go_at_call 26; (refine ((write_says _ _ d a b _ (DiskF.V F17_.out) ⟨A3, c3, rfl, hc3.out, Kd.F_now F18_.out⟩).mono (fun e w' h => DE.of h hX.out)).mono ?_); rintro e w5 ⟨⟨P1, p1, Q1, q1, rfl, hd⟩, hb⟩; have F22_ := Aside0.mk (DiskF.below F17_.out hb); have F23_ := Aside0.mk (Kd.F_below F18_.out hb); have F24_ := Aside0.mk (Kd.F_below F19_.out hb); have F25_ := Aside0.mk (below_step F20_.out hb); have F26_ := Aside0.mk (blk_below F21_.out hb); clear F17_ F18_ F19_ F20_ F21_; clear hd hb))
          go_ret
          exact ⟨rfl, below_alloc F25_.out _⟩
        · skip
          go_wp2_with (first | (go_at_call 28; (refine ((read_says _ d o _ (DiskF.V F12_.out)).mono (fun e w' h => RE.of h hU.out rfl)).mono ?_); rintro e w4 ⟨⟨A11, c11, rfl, hc11, hd⟩, hb⟩; have F27_ := Aside0.mk (DiskF.below F12_.out hb); have F28_ := Aside0.mk (Kd.F_below F13_.out hb); have F29_ := Aside0.mk (Kd.F_below F14_.out hb); have F30_ := Aside0.mk (below_step F15_.out hb); have F31_ := Aside0.mk (blk_below F16_.out hb); clear F12_ F13_ F14_ F15_ F16_; clear hd hb hc11; clear y0 y1 y2 y3; have y0 := (blk_cell F31_.out 0).trans rfl; have y1 := (blk_cell F31_.out 1).trans rfl; have y2 := (blk_cell F31_.out 2).trans rfl; have y3 := (blk_cell F31_.out 3).trans rfl) | (go_at_call 26; (refine ((write_says _ _ d a b _ (DiskF.V F27_.out) ⟨A3, c3, rfl, hc3.out, Kd.F_now F28_.out⟩).mono (fun e w' h => DE.of h hX.out)).mono ?_); rintro e w5 ⟨⟨P1, p1, Q1, q1, rfl, hd⟩, hb⟩; have F32_ := Aside0.mk (DiskF.below F27_.out hb); have F33_ := Aside0.mk (Kd.F_below F28_.out hb); have F34_ := Aside0.mk (Kd.F_below F29_.out hb); have F35_ := Aside0.mk (below_step F30_.out hb); have F36_ := Aside0.mk (blk_below F31_.out hb); clear F27_ F28_ F29_ F30_ F31_; clear hd hb))
          go_ret
          exact ⟨rfl, below_alloc F35_.out _⟩
        · skip
          go_wp2_with (first | (go_at_call 28; (refine ((read_says _ d o _ (DiskF.V F12_.out)).mono (fun e w' h => RE.of h hU.out rfl)).mono ?_); rintro e w4 ⟨⟨A11, c11, rfl, hc11, hd⟩, hb⟩; have F37_ := Aside0.mk (DiskF.below F12_.out hb); have F38_ := Aside0.mk (Kd.F_below F13_.out hb); have F39_ := Aside0.mk (Kd.F_below F14_.out hb); have F40_ := Aside0.mk (below_step F15_.out hb); have F41_ := Aside0.mk (blk_below F16_.out hb); clear F12_ F13_ F14_ F15_ F16_; clear hd hb hc11; clear y0 y1 y2 y3; have y0 := (blk_cell F41_.out 0).trans rfl; have y1 := (blk_cell F41_.out 1).trans rfl; have y2 := (blk_cell F41_.out 2).trans rfl; have y3 := (blk_cell F41_.out 3).trans rfl) | (go_at_call 26; (refine ((write_says _ _ d a b _ (DiskF.V F37_.out) ⟨A3, c3, rfl, hc3.out, Kd.F_now F38_.out⟩).mono (fun e w' h => DE.of h hX.out)).mono ?_); rintro e w5 ⟨⟨P1, p1, Q1, q1, rfl, hd⟩, hb⟩; have F42_ := Aside0.mk (DiskF.below F37_.out hb); have F43_ := Aside0.mk (Kd.F_below F38_.out hb); have F44_ := Aside0.mk (Kd.F_below F39_.out hb); have F45_ := Aside0.mk (below_step F40_.out hb); have F46_ := Aside0.mk (blk_below F41_.out hb); clear F37_ F38_ F39_ F40_ F41_; clear hd hb))
          go_ret
          exact ⟨rfl, below_alloc F45_.out _⟩
      · replace hU := Aside0.mk hU
        go_wp2_with (first | (go_at_call 28; (refine ((read_says _ d o _ (DiskF.V F12_.out)).mono (fun e w' h => RE.of h hU.out rfl)).mono ?_); rintro e w4 ⟨⟨A11, c11, rfl, hc11, hd⟩, hb⟩; have F47_ := Aside0.mk (DiskF.below F12_.out hb); have F48_ := Aside0.mk (Kd.F_below F13_.out hb); have F49_ := Aside0.mk (Kd.F_below F14_.out hb); have F50_ := Aside0.mk (below_step F15_.out hb); have F51_ := Aside0.mk (blk_below F16_.out hb); clear F12_ F13_ F14_ F15_ F16_; clear hd hb hc11; clear y0 y1 y2 y3; have y0 := (blk_cell F51_.out 0).trans rfl; have y1 := (blk_cell F51_.out 1).trans rfl; have y2 := (blk_cell F51_.out 2).trans rfl; have y3 := (blk_cell F51_.out 3).trans rfl) | (go_at_call 26; (refine ((write_says _ _ d a b _ (DiskF.V F47_.out) ⟨A3, c3, rfl, hc3.out, Kd.F_now F48_.out⟩).mono (fun e w' h => DE.of h hX.out)).mono ?_); rintro e w5 ⟨⟨P1, p1, Q1, q1, rfl, hd⟩, hb⟩; have F52_ := Aside0.mk (DiskF.below F47_.out hb); have F53_ := Aside0.mk (Kd.F_below F48_.out hb); have F54_ := Aside0.mk (Kd.F_below F49_.out hb); have F55_ := Aside0.mk (below_step F50_.out hb); have F56_ := Aside0.mk (blk_below F51_.out hb); clear F47_ F48_ F49_ F50_ F51_; clear hd hb))
        go_ret
        exact ⟨rfl, below_alloc F55_.out _⟩
end Go.Proofs.Ytlnmjgkeiljniaa.Q
/- sizarlaw45.DiskReads, walked: what goes through. -/
namespace Go.Proofs.Ytlnmjgkeiljniaa.Q
open Go.RowKit Go.Proofs.YtlnmjgkeiljniaaW.PrintWords Go.Proofs.YtlnmjgkeiljniaaW.PrintLast Go.Proofs.YtlnmjgkeiljniaaW.PrintMore
set_option linter.unusedVariables false
set_option linter.unusedSimpArgs false
set_option maxHeartbeats 8000000 in
set_option maxRecDepth 100000 in
theorem reads_same (P0 : Option Addr) (p0 : Nat) (Q0 : Option Addr) (q0 : Nat) (d : Dk) (a o : Int) (A3 : Option Addr) (c3 : Nat) (b : List Int) (A4 : Option Addr) (c4 : Nat) (c : List Int) (w : World) (h : DiskV w (.agg #[.slice P0 d.s.length p0, .slice Q0 d.p.length q0, .int .i64 d.left, .bool d.st]) d) (h2 : BytesV w (.slice A3 b.length c3) b) (h4 : BytesV w (.slice A4 c.length c4) c) (hl : ¬ 128 < b.length) (hl2 : ¬ 128 < c.length) (U : List Int) (X : Dk) (hU : readD d o = (U, 0)) (hX : writeD d a b = (X, 0)) (hao : a = o) : Calls Try.prog 8 #[(.agg #[.slice P0 d.s.length p0, .slice Q0 d.p.length q0, .int .i64 d.left, .bool d.st]), .int .i64 a, .int .i64 o, .slice A3 b.length c3, .slice A4 c.length c4] w fun e w' => e = .returned (.bool true) ∧ Below w.heap.size w w' := by
  replace hao := Aside0.mk hao
  have hu25 := Try.underlying25
  have D0 := Aside0.mk (DiskV.F h)
  have HM0 := Aside0.mk (show d.s.length ≤ 9223372036854775807 by obtain ⟨A0, c0, A1, c1, -, -, -, hC, -⟩ := h; exact hC.2.1)
  obtain ⟨A_, c_, he, hc3, hC_⟩ := h2
  cases he
  replace hc3 := Aside0.mk hc3
  have E0 := Aside0.mk (Kd.C_F (Kd.heap_int .u8) hC_)
  clear hC_
  obtain ⟨A_, c_, he, hc4, hC_⟩ := h4
  cases he
  replace hc4 := Aside0.mk hc4
  have E1 := Aside0.mk (Kd.C_F (Kd.heap_int .u8) hC_)
  clear hC_
  have F1_ := Aside0.mk (Below.refl w.heap.size w)
  clear h
  go_enter Try.func8, Try.ntmps8
  go_upto_region 1 with (fail)
  have F2_ := Aside0.mk (DiskF.below D0.out (below_alloc (Below.refl _ _) (.cells #[.slice P0 d.s.length p0, .slice Q0 d.p.length q0, .int .i64 d.left, .bool d.st] 25)))
  have F3_ := Aside0.mk (Kd.F_alloc E0.out (.cells #[.slice P0 d.s.length p0, .slice Q0 d.p.length q0, .int .i64 d.left, .bool d.st] 25))
  have F4_ := Aside0.mk (Kd.F_alloc E1.out (.cells #[.slice P0 d.s.length p0, .slice Q0 d.p.length q0, .int .i64 d.left, .bool d.st] 25))
  have F5_ := Aside0.mk (below_alloc F1_.out (.cells #[.slice P0 d.s.length p0, .slice Q0 d.p.length q0, .int .i64 d.left, .bool d.st] 25))
  clear D0 E0 E1 F1_
  have F6_ := Aside0.mk (blk_new w (.cells #[.slice P0 d.s.length p0, .slice Q0 d.p.length q0, .int .i64 d.left, .bool d.st] 25))
  generalize w.alloc (.cells #[.slice P0 d.s.length p0, .slice Q0 d.p.length q0, .int .i64 d.left, .bool d.st] 25) = w1 at *
  go_upto_region 3 with (go_at_call 17; (refine (sane_says _).mono ?_); rintro e w2 ⟨rfl, hb⟩; have F7_ := Aside0.mk (DiskF.below F2_.out hb); have F8_ := Aside0.mk (Kd.F_below F3_.out hb); have F9_ := Aside0.mk (Kd.F_below F4_.out hb); have F10_ := Aside0.mk (below_step F5_.out hb); have F11_ := Aside0.mk (blk_below F6_.out hb); clear F2_ F3_ F4_ F5_ F6_; clear hb)
  have y0 := (blk_cell F11_.out 0).trans rfl
  have y1 := (blk_cell F11_.out 1).trans rfl
  have y2 := (blk_cell F11_.out 2).trans rfl
  have y3 := (blk_cell F11_.out 3).trans rfl
  obtain ⟨r, hr⟩ : ∃ r : Bool, Aside0 (∀ w', Below w2.heap.size w2 w' → Calls Try.prog 18 #[(.agg #[.slice P0 d.s.length p0, .slice Q0 d.p.length q0, .int .i64 d.left, .bool d.st])] w' fun e w'' => e = .returned (.bool r) ∧ Below w'.heap.size w' w'') := few_one F7_.out
  cases r with
    | false =>
      go_wp2_with (go_at_call 18; (refine (hr.out _ (Below.refl _ _)).mono ?_); rintro e w3 ⟨rfl, hb⟩; have F12_ := Aside0.mk (DiskF.below F7_.out hb); have F13_ := Aside0.mk (Kd.F_below F8_.out hb); have F14_ := Aside0.mk (Kd.F_below F9_.out hb); have F15_ := Aside0.mk (below_step F10_.out hb); have F16_ := Aside0.mk (blk_below F11_.out hb); clear F7_ F8_ F9_ F10_ F11_; clear hb)
      go_ret
      exact ⟨rfl, F15_.out⟩
    | true =>
      have q1 : decide ((128 : Int) < (b.length : Int)) = false := decide_eq_false (by omega)
      have q2 : decide ((128 : Int) < (c.length : Int)) = false := decide_eq_false (by omega)
      have HBL := Aside0.mk (show b.length ≤ 128 by omega)
      have HCL := Aside0.mk (show c.length ≤ 128 by omega)
      replace hU := Aside0.mk hU
      replace hX := Aside0.mk hX
      clear hl hl2
      go_upto_region 5 with (go_at_call 18; (refine (hr.out _ (Below.refl _ _)).mono ?_); rintro e w3 ⟨rfl, hb⟩; have F12_ := Aside0.mk (DiskF.below F7_.out hb); have F13_ := Aside0.mk (Kd.F_below F8_.out hb); have F14_ := Aside0.mk (Kd.F_below F9_.out hb); have F15_ := Aside0.mk (below_step F10_.out hb); have F16_ := Aside0.mk (blk_below F11_.out hb); clear F7_ F8_ F9_ F10_ F11_; clear hb)
      clear y0 y1 y2 y3
      clear q1 q2
      have y0 := (blk_cell F16_.out 0).trans rfl
      have y1 := (blk_cell F16_.out 1).trans rfl
      have y2 := (blk_cell F16_.out 2).trans rfl
      have y3 := (blk_cell F16_.out 3).trans rfl
      go_upto_region 6 with (go_at_call 28; (refine ((read_says _ d o _ (DiskF.V F12_.out)).mono (fun e w' h => RE.of h hU.out rfl)).mono ?_); rintro e w4 ⟨⟨A11, c11, rfl, hc11, hd⟩, hb⟩; have F17_ := Aside0.mk (DiskF.below F12_.out hb); have F18_ := Aside0.mk (Kd.F_below F13_.out hb); have F19_ := Aside0.mk (Kd.F_below F14_.out hb); have F20_ := Aside0.mk (below_step F15_.out hb); have F21_ := Aside0.mk (blk_below F16_.out hb); clear F12_ F13_ F14_ F15_ F16_; have F22_ := Aside0.mk (hd); clear hd hb hc11)
      clear y0 y1 y2 y3
      have y0 := (blk_cell F21_.out 0).trans rfl
      have y1 := (blk_cell F21_.out 1).trans rfl
      have y2 := (blk_cell F21_.out 2).trans rfl
      have y3 := (blk_cell F21_.out 3).trans rfl
      go_upto_region 7 with (go_at_call 26; (refine ((write_says _ _ d a b _ (DiskF.V F17_.out) ⟨A3, c3, rfl, hc3.out, Kd.F_now F18_.out⟩).mono (fun e w' h => DE.of h hX.out)).mono ?_); rintro e w5 ⟨⟨P1, p1, Q1, q1, rfl, hd⟩, hb⟩; have F23_ := Aside0.mk (DiskF.below F17_.out hb); have F24_ := Aside0.mk (Kd.F_below F18_.out hb); have F25_ := Aside0.mk (Kd.F_below F19_.out hb); have F26_ := Aside0.mk (below_step F20_.out hb); have F27_ := Aside0.mk (blk_below F21_.out hb); have F28_ := Aside0.mk (Kd.F_below F22_.out hb); clear F17_ F18_ F19_ F20_ F21_ F22_; have F29_ := Aside0.mk (DiskV.F hd); clear hd hb)
      clear y0 y1 y2 y3
      have F30_ := Aside0.mk (DiskF.below F23_.out (below_alloc (Below.refl _ _) (.cells #[.slice P1 X.s.length p1, .slice Q1 X.p.length q1, .int .i64 X.left, .bool X.st] 25)))
      have F31_ := Aside0.mk (Kd.F_alloc F24_.out (.cells #[.slice P1 X.s.length p1, .slice Q1 X.p.length q1, .int .i64 X.left, .bool X.st] 25))
      have F32_ := Aside0.mk (Kd.F_alloc F25_.out (.cells #[.slice P1 X.s.length p1, .slice Q1 X.p.length q1, .int .i64 X.left, .bool X.st] 25))
      have F33_ := Aside0.mk (below_alloc F26_.out (.cells #[.slice P1 X.s.length p1, .slice Q1 X.p.length q1, .int .i64 X.left, .bool X.st] 25))
      have F34_ := Aside0.mk (blk_alloc F27_.out (.cells #[.slice P1 X.s.length p1, .slice Q1 X.p.length q1, .int .i64 X.left, .bool X.st] 25))
      have F35_ := Aside0.mk (Kd.F_alloc F28_.out (.cells #[.slice P1 X.s.length p1, .slice Q1 X.p.length q1, .int .i64 X.left, .bool X.st] 25))
      have F36_ := Aside0.mk (DiskF.below F29_.out (below_alloc (Below.refl _ _) (.cells #[.slice P1 X.s.length p1, .slice Q1 X.p.length q1, .int .i64 X.left, .bool X.st] 25)))
      clear F23_ F24_ F25_ F26_ F27_ F28_ F29_
      have F37_ := Aside0.mk (blk_new w5 (.cells #[.slice P1 X.s.length p1, .slice Q1 X.p.length q1, .int .i64 X.left, .bool X.st] 25))
      generalize w5.alloc (.cells #[.slice P1 X.s.length p1, .slice Q1 X.p.length q1, .int .i64 X.left, .bool X.st] 25) = w6 at *
      generalize w5.heap.size = b13 at *
      go_upto_region 9 with (fail)
      have y0 := (blk_cell F37_.out 0).trans rfl
      have y1 := (blk_cell F37_.out 1).trans rfl
      have y2 := (blk_cell F37_.out 2).trans rfl
      have y3 := (blk_cell F37_.out 3).trans rfl
      go_upto_region 10 with (go_at_call 28; (refine ((read_says _ X o _ (DiskF.V F36_.out)).mono (fun e w' h => RE.of h ((write_read hX.out hU.out).trans (by rw [if_pos hao.out])) (pad_len b HBL.out))).mono ?_); rintro e w7 ⟨⟨A15, c15, rfl, hc15, hd⟩, hb⟩; have F38_ := Aside0.mk (DiskF.below F30_.out hb); have F39_ := Aside0.mk (Kd.F_below F31_.out hb); have F40_ := Aside0.mk (Kd.F_below F32_.out hb); have F41_ := Aside0.mk (below_step F33_.out hb); have F42_ := Aside0.mk (blk_below F34_.out hb); have F43_ := Aside0.mk (Kd.F_below F35_.out hb); have F44_ := Aside0.mk (DiskF.below F36_.out hb); have F45_ := Aside0.mk (blk_below F37_.out hb); clear F30_ F31_ F32_ F33_ F34_ F35_ F36_ F37_; have F46_ := Aside0.mk (hd); clear hd hb hc15)
      clear y0 y1 y2 y3
      have y0 := (blk_cell F45_.out 0).trans rfl
      have y1 := (blk_cell F45_.out 1).trans rfl
      have y2 := (blk_cell F45_.out 2).trans rfl
      have y3 := (blk_cell F45_.out 3).trans rfl
      go_upto_region 11 with (go_at_call 28; (refine ((read_says _ X a _ (DiskF.V F44_.out)).mono (fun e w' h => RE.of h (write_mine hX.out) (pad_len b HBL.out))).mono ?_); rintro e w8 ⟨⟨A17, c17, rfl, hc17, hd⟩, hb⟩; obtain ⟨ad17, rfl, -⟩ := byte_at hd 0 (by decide); have F47_ := Aside0.mk (DiskF.below F38_.out hb); have F48_ := Aside0.mk (Kd.F_below F39_.out hb); have F49_ := Aside0.mk (Kd.F_below F40_.out hb); have F50_ := Aside0.mk (below_step F41_.out hb); have F51_ := Aside0.mk (blk_below F42_.out hb); have F52_ := Aside0.mk (Kd.F_below F43_.out hb); have F53_ := Aside0.mk (DiskF.below F44_.out hb); have F54_ := Aside0.mk (blk_below F45_.out hb); have F55_ := Aside0.mk (Kd.F_below F46_.out hb); clear F38_ F39_ F40_ F41_ F42_ F43_ F44_ F45_ F46_; have F56_ := Aside0.mk (hd); replace hc17 := Aside0.mk hc17; clear hd hb)
      clear y0 y1 y2 y3
      have hsl : ∀ W : World, (Instr.slice 35 (.slice (some ad17) 128 c17) none (some (.int .i64 (b.length : Int))) none).run Try.prog W = .ok (.slice (some ad17) b.length c17) W := fun W => by
        have q1 : (0 : Int) ≤ (b.length : Int) := by omega
        have q2 : (b.length : Int) ≤ (c17 : Int) := by have := HBL.out; have := hc17.out; omega
        have hu35 := Try.underlying35
        go_simp
      have cv1 := conv_take (c := c17) F56_.out rfl HBL.out
      have cv2 := conv_all (c := c3) F48_.out
      have hq : (a != o) = false := bne_eq_false_iff_eq.mpr hao.out
      go_quiet (fail)
      have F57_ := Aside0.mk (DiskF.below F47_.out (pw_below_drewN (Below.refl _ _) nq))
      have F58_ := Aside0.mk (Kd.F_below F48_.out (pw_below_drewN (Below.refl _ _) nq))
      have F59_ := Aside0.mk (Kd.F_below F49_.out (pw_below_drewN (Below.refl _ _) nq))
      have F60_ := Aside0.mk (below_step F50_.out (pw_below_drewN (Below.refl _ _) nq))
      have F61_ := Aside0.mk (blk_below F51_.out (pw_below_drewN (Below.refl _ _) nq))
      have F62_ := Aside0.mk (Kd.F_below F52_.out (pw_below_drewN (Below.refl _ _) nq))
      have F63_ := Aside0.mk (DiskF.below F53_.out (pw_below_drewN (Below.refl _ _) nq))
      have F64_ := Aside0.mk (blk_below F54_.out (pw_below_drewN (Below.refl _ _) nq))
      have F65_ := Aside0.mk (Kd.F_below F55_.out (pw_below_drewN (Below.refl _ _) nq))
      have F66_ := Aside0.mk (Kd.F_below F56_.out (pw_below_drewN (Below.refl _ _) nq))
      clear F47_ F48_ F49_ F50_ F51_ F52_ F53_ F54_ F55_ F56_
      clear hsl cv1 cv2 hq
      generalize w8.drewN nq = w9 at *
      clear F66_ F65_ F62_ F58_
      go_upto_region 13 with (fail)
      have y0 := (blk_cell F64_.out 0).trans rfl
      have y1 := (blk_cell F64_.out 1).trans rfl
      have y2 := (blk_cell F64_.out 2).trans rfl
      have y3 := (blk_cell F64_.out 3).trans rfl
      obtain ⟨Y, i, hY⟩ : ∃ Y i, Aside0 (writeD X o c = (Y, i)) := ⟨_, _, ⟨rfl⟩⟩
      have hi := write_again hX.out hU.out HCL.out hY.out
      rcases hi with rfl | rfl
      rotate_left
      · skip
        go_wp2_with (go_at_call 26; (refine ((write_says _ _ X o c _ (DiskF.V F63_.out) ⟨A4, c4, rfl, hc4.out, Kd.F_now F59_.out⟩).mono (fun e w' h => DE.of h hY.out)).mono ?_); rintro e w10 ⟨⟨P2, p2, Q2, q2, rfl, hd⟩, hb⟩; have F67_ := Aside0.mk (DiskF.below F57_.out hb); have F68_ := Aside0.mk (Kd.F_below F59_.out hb); have F69_ := Aside0.mk (below_step F60_.out hb); have F70_ := Aside0.mk (blk_below F61_.out hb); have F71_ := Aside0.mk (DiskF.below F63_.out hb); have F72_ := Aside0.mk (blk_below F64_.out hb); clear F57_ F59_ F60_ F61_ F63_ F64_; have F73_ := Aside0.mk (DiskV.F hd); clear hd hb)
        go_ret
        exact ⟨rfl, below_alloc F69_.out _⟩
      have HYR := Aside0.mk (write_runs hY.out)
      have HXR := Aside0.mk (write_runs hX.out)
      obtain ⟨Z, j, hZ⟩ : ∃ Z j, Aside0 (syncD Y = (Z, j)) := ⟨_, _, ⟨rfl⟩⟩
      go_upto_region 14 with (go_at_call 26; (refine ((write_says _ _ X o c _ (DiskF.V F63_.out) ⟨A4, c4, rfl, hc4.out, Kd.F_now F59_.out⟩).mono (fun e w' h => DE.of h hY.out)).mono ?_); rintro e w10 ⟨⟨P2, p2, Q2, q2, rfl, hd⟩, hb⟩; have F74_ := Aside0.mk (DiskF.below F57_.out hb); have F75_ := Aside0.mk (Kd.F_below F59_.out hb); have F76_ := Aside0.mk (below_step F60_.out hb); have F77_ := Aside0.mk (blk_below F61_.out hb); have F78_ := Aside0.mk (DiskF.below F63_.out hb); have F79_ := Aside0.mk (blk_below F64_.out hb); clear F57_ F59_ F60_ F61_ F63_ F64_; have F80_ := Aside0.mk (DiskV.F hd); clear hd hb)
      clear y0 y1 y2 y3
      have F81_ := Aside0.mk (DiskF.below F74_.out (below_alloc (Below.refl _ _) (.cells #[.slice P2 Y.s.length p2, .slice Q2 Y.p.length q2, .int .i64 Y.left, .bool Y.st] 25)))
      have F82_ := Aside0.mk (Kd.F_alloc F75_.out (.cells #[.slice P2 Y.s.length p2, .slice Q2 Y.p.length q2, .int .i64 Y.left, .bool Y.st] 25))
      have F83_ := Aside0.mk (below_alloc F76_.out (.cells #[.slice P2 Y.s.length p2, .slice Q2 Y.p.length q2, .int .i64 Y.left, .bool Y.st] 25))
      have F84_ := Aside0.mk (blk_alloc F77_.out (.cells #[.slice P2 Y.s.length p2, .slice Q2 Y.p.length q2, .int .i64 Y.left, .bool Y.st] 25))
      have F85_ := Aside0.mk (DiskF.below F78_.out (below_alloc (Below.refl _ _) (.cells #[.slice P2 Y.s.length p2, .slice Q2 Y.p.length q2, .int .i64 Y.left, .bool Y.st] 25)))
      have F86_ := Aside0.mk (blk_alloc F79_.out (.cells #[.slice P2 Y.s.length p2, .slice Q2 Y.p.length q2, .int .i64 Y.left, .bool Y.st] 25))
      have F87_ := Aside0.mk (DiskF.below F80_.out (below_alloc (Below.refl _ _) (.cells #[.slice P2 Y.s.length p2, .slice Q2 Y.p.length q2, .int .i64 Y.left, .bool Y.st] 25)))
      clear F74_ F75_ F76_ F77_ F78_ F79_ F80_
      have F88_ := Aside0.mk (blk_new w10 (.cells #[.slice P2 Y.s.length p2, .slice Q2 Y.p.length q2, .int .i64 Y.left, .bool Y.st] 25))
      generalize w10.alloc (.cells #[.slice P2 Y.s.length p2, .slice Q2 Y.p.length q2, .int .i64 Y.left, .bool Y.st] 25) = w11 at *
      generalize w10.heap.size = b19 at *
      clear F85_ F82_ F86_
      go_upto_region 16 with (fail)
      have y0 := (blk_cell F88_.out 0).trans rfl
      have y1 := (blk_cell F88_.out 1).trans rfl
      have y2 := (blk_cell F88_.out 2).trans rfl
      have y3 := (blk_cell F88_.out 3).trans rfl
      have hj := sync_two HYR.out.1 hZ.out
      rcases hj with ⟨rfl, hst⟩ | ⟨rfl, hzp, hzc, hzr⟩
      · replace hst := Aside0.mk hst
        go_wp2_with (go_at_call 30; (refine ((sync_says _ Y _ (DiskF.V F87_.out)).mono (fun e w' h => DE.of h hZ.out)).mono ?_); rintro e w12 ⟨⟨P3, p3, Q3, q3, rfl, hd⟩, hb⟩; have F89_ := Aside0.mk (DiskF.below F81_.out hb); have F90_ := Aside0.mk (below_step F83_.out hb); have F91_ := Aside0.mk (blk_below F84_.out hb); have F92_ := Aside0.mk (DiskF.below F87_.out hb); have F93_ := Aside0.mk (blk_below F88_.out hb); clear F81_ F83_ F84_ F87_ F88_; have F94_ := Aside0.mk (DiskV.F hd); clear hd hb; rw [hst.out])
        go_ret
        exact ⟨rfl, below_alloc F90_.out _⟩
      replace hzc := Aside0.mk hzc
      replace hzr := Aside0.mk hzr
      replace hzp := Aside0.mk (show Z.p.length = 0 by rw [hzp]; rfl)
      go_upto_region 17 with (go_at_call 30; (refine ((sync_says _ Y _ (DiskF.V F87_.out)).mono (fun e w' h => DE.of h hZ.out)).mono ?_); rintro e w12 ⟨⟨P3, p3, Q3, q3, rfl, hd⟩, hb⟩; have F95_ := Aside0.mk (DiskF.below F81_.out hb); have F96_ := Aside0.mk (below_step F83_.out hb); have F97_ := Aside0.mk (blk_below F84_.out hb); have F98_ := Aside0.mk (DiskF.below F87_.out hb); have F99_ := Aside0.mk (blk_below F88_.out hb); clear F81_ F83_ F84_ F87_ F88_; have F100_ := Aside0.mk (DiskV.F hd); clear hd hb)
      clear y0 y1 y2 y3
      have F101_ := Aside0.mk (DiskF.below F95_.out (below_alloc (Below.refl _ _) (.cells #[.slice P3 Z.s.length p3, .slice Q3 Z.p.length q3, .int .i64 Z.left, .bool Z.st] 25)))
      have F102_ := Aside0.mk (below_alloc F96_.out (.cells #[.slice P3 Z.s.length p3, .slice Q3 Z.p.length q3, .int .i64 Z.left, .bool Z.st] 25))
      have F103_ := Aside0.mk (blk_alloc F97_.out (.cells #[.slice P3 Z.s.length p3, .slice Q3 Z.p.length q3, .int .i64 Z.left, .bool Z.st] 25))
      have F104_ := Aside0.mk (DiskF.below F98_.out (below_alloc (Below.refl _ _) (.cells #[.slice P3 Z.s.length p3, .slice Q3 Z.p.length q3, .int .i64 Z.left, .bool Z.st] 25)))
      have F105_ := Aside0.mk (blk_alloc F99_.out (.cells #[.slice P3 Z.s.length p3, .slice Q3 Z.p.length q3, .int .i64 Z.left, .bool Z.st] 25))
      have F106_ := Aside0.mk (DiskF.below F100_.out (below_alloc (Below.refl _ _) (.cells #[.slice P3 Z.s.length p3, .slice Q3 Z.p.length q3, .int .i64 Z.left, .bool Z.st] 25)))
      clear F95_ F96_ F97_ F98_ F99_ F100_
      have F107_ := Aside0.mk (blk_new w12 (.cells #[.slice P3 Z.s.length p3, .slice Q3 Z.p.length q3, .int .i64 Z.left, .bool Z.st] 25))
      generalize w12.alloc (.cells #[.slice P3 Z.s.length p3, .slice Q3 Z.p.length q3, .int .i64 Z.left, .bool Z.st] 25) = w13 at *
      generalize w12.heap.size = b21 at *
      go_upto_region 19 with (fail)
      go_wp2_with (fail)
      go_loopg [23] d.s.length (fun kq v23 w' => ∃ k : Nat, v23 = .int .i64 k ∧ Aside0 (k ≤ d.s.length ∧ kq + k = d.s.length) ∧ Aside0 (Below w.heap.size w w') ∧ Aside0 (w'.heap[w.heap.size]? = some (.cells #[.slice P0 d.s.length p0, .slice Q0 d.p.length q0, .int .i64 d.left, .bool d.st] 25 (0, 0))) ∧ Aside0 (w'.heap[b19]? = some (.cells #[.slice P2 Y.s.length p2, .slice Q2 Y.p.length q2, .int .i64 Y.left, .bool Y.st] 25 (0, 0))) ∧ Aside0 (w'.heap[b21]? = some (.cells #[.slice P3 Z.s.length p3, .slice Q3 Z.p.length q3, .int .i64 Z.left, .bool Z.st] 25 (0, 0))) ∧ Aside0 (DiskV w' (.agg #[.slice P2 Y.s.length p2, .slice Q2 Y.p.length q2, .int .i64 Y.left, .bool Y.st]) Y) ∧ Aside0 (DiskV w' (.agg #[.slice P3 Z.s.length p3, .slice Q3 Z.p.length q3, .int .i64 Z.left, .bool Z.st]) Z))
      case atStart => exact ⟨0, rfl, ⟨by omega⟩, ⟨F102_.out⟩, ⟨F103_.out⟩, ⟨F105_.out⟩, ⟨F107_.out⟩, ⟨DiskF.V F104_.out⟩, ⟨DiskF.V F106_.out⟩⟩
      clear F102_ F103_ F105_ F107_ F104_ F106_
      obtain ⟨k, rfl, HI, GB, Gb5, Gb19, Gb21, GY, GZ⟩ := hrel
      have x0 := (blk_cell Gb5.out 0).trans rfl
      have x1 := (blk_cell Gb5.out 1).trans rfl
      have x2 := (blk_cell Gb5.out 2).trans rfl
      have x3 := (blk_cell Gb5.out 3).trans rfl
      have y0 := (blk_cell Gb19.out 0).trans rfl
      have y1 := (blk_cell Gb19.out 1).trans rfl
      have y2 := (blk_cell Gb19.out 2).trans rfl
      have y3 := (blk_cell Gb19.out 3).trans rfl
      have z0 := (blk_cell Gb21.out 0).trans rfl
      have z1 := (blk_cell Gb21.out 1).trans rfl
      have z2 := (blk_cell Gb21.out 2).trans rfl
      have z3 := (blk_cell Gb21.out 3).trans rfl
      by_cases hi : k < d.s.length
      · have hi0 : decide (k < d.s.length) = true := decide_eq_true hi
        have hw := Aside0.mk (show wrap64 ((k : Int) + 1) = ((k + 1 : Nat) : Int) by have := HM0.out; unfold wrap64; omega)
        obtain ⟨V, hv1, hv2⟩ := hzr.out k (by rw [HYR.out.2, HXR.out.2]; exact hi)
        replace hv1 := Aside0.mk hv1
        replace hv2 := Aside0.mk hv2
        go_upto_region 23 with (go_at_call 28; (refine ((read_says _ Y k _ GY.out).mono (fun e w' h => RE.of h hv1.out rfl)).mono ?_); rintro e w14 ⟨⟨A24, c24, rfl, hc24, hd⟩, hb⟩; have M1 := Aside0.mk (below_step GB.out hb); have M2 := Aside0.mk (blk_below Gb5.out hb); have M3 := Aside0.mk (blk_below Gb19.out hb); have Gb21b := Aside0.mk (blk_below Gb21.out hb); have M5 := Aside0.mk (DiskV.below GY.out hb); have M6 := Aside0.mk (DiskV.below GZ.out hb); have hr1 := Aside0.mk hd; clear hd hb hc24 z0 z1 z2 z3 y0 y1 y2 y3 x0 x1 x2 x3; have z0 := (blk_cell Gb21b.out 0).trans rfl; have z1 := (blk_cell Gb21b.out 1).trans rfl; have z2 := (blk_cell Gb21b.out 2).trans rfl; have z3 := (blk_cell Gb21b.out 3).trans rfl)
        go_wp2_with (go_at_call 28; (refine ((read_says _ Z k _ M6.out).mono (fun e w' h => RE.of h hv2.out rfl)).mono ?_); rintro e w15 ⟨⟨A26, c26, rfl, hc26, hd⟩, hb⟩; have N1 := Aside0.mk (below_step M1.out hb); have N2 := Aside0.mk (blk_below M2.out hb); have N3 := Aside0.mk (blk_below M3.out hb); have N4 := Aside0.mk (blk_below Gb21b.out hb); have N5 := Aside0.mk (DiskV.below M5.out hb); have N6 := Aside0.mk (DiskV.below M6.out hb); have cv1 := Kd.C_string (P := Try.prog) (c := c24) Try.underlying35 Try.underlying5 Try.underlying9 (Kd.F_now (Kd.F_below hr1.out hb)); have cv2 := Kd.C_string (P := Try.prog) (c := c26) Try.underlying35 Try.underlying5 Try.underlying9 (Kd.F_now hd); clear hd hb hc26 z0 z1 z2 z3)
        go_roundg (gk - 1)
        case measure => have := HI.out; omega
        case rel => exact ⟨k + 1, by rw [hw.out], ⟨by have := HI.out; omega⟩, N1, N2, N3, N4, N5, N6⟩
      · have hi0 : decide (k < d.s.length) = false := decide_eq_false hi
        have hq : ((Z.p.length : Int) == 0) = true := by rw [hzp.out]; rfl
        go_wp2_with (go_at_call 22; (refine (check_says _ Z _ GZ.out).mono ?_); rintro e w16 ⟨he, hb⟩; rw [hzc.out] at he; subst he; have NB := Aside0.mk (below_step GB.out hb); clear hb)
        go_ret
        exact ⟨rfl, NB.out⟩
set_option maxHeartbeats 8000000 in
set_option maxRecDepth 100000 in
theorem reads_other (P0 : Option Addr) (p0 : Nat) (Q0 : Option Addr) (q0 : Nat) (d : Dk) (a o : Int) (A3 : Option Addr) (c3 : Nat) (b : List Int) (A4 : Option Addr) (c4 : Nat) (c : List Int) (w : World) (h : DiskV w (.agg #[.slice P0 d.s.length p0, .slice Q0 d.p.length q0, .int .i64 d.left, .bool d.st]) d) (h2 : BytesV w (.slice A3 b.length c3) b) (h4 : BytesV w (.slice A4 c.length c4) c) (hl : ¬ 128 < b.length) (hl2 : ¬ 128 < c.length) (U : List Int) (X : Dk) (hU : readD d o = (U, 0)) (hX : writeD d a b = (X, 0)) (hao : ¬ a = o) : Calls Try.prog 8 #[(.agg #[.slice P0 d.s.length p0, .slice Q0 d.p.length q0, .int .i64 d.left, .bool d.st]), .int .i64 a, .int .i64 o, .slice A3 b.length c3, .slice A4 c.length c4] w fun e w' => e = .returned (.bool true) ∧ Below w.heap.size w w' := by
  replace hao := Aside0.mk hao
  have hu25 := Try.underlying25
  have D0 := Aside0.mk (DiskV.F h)
  have HM0 := Aside0.mk (show d.s.length ≤ 9223372036854775807 by obtain ⟨A0, c0, A1, c1, -, -, -, hC, -⟩ := h; exact hC.2.1)
  obtain ⟨A_, c_, he, hc3, hC_⟩ := h2
  cases he
  replace hc3 := Aside0.mk hc3
  have E0 := Aside0.mk (Kd.C_F (Kd.heap_int .u8) hC_)
  clear hC_
  obtain ⟨A_, c_, he, hc4, hC_⟩ := h4
  cases he
  replace hc4 := Aside0.mk hc4
  have E1 := Aside0.mk (Kd.C_F (Kd.heap_int .u8) hC_)
  clear hC_
  have F1_ := Aside0.mk (Below.refl w.heap.size w)
  clear h
  go_enter Try.func8, Try.ntmps8
  go_upto_region 1 with (fail)
  have F2_ := Aside0.mk (DiskF.below D0.out (below_alloc (Below.refl _ _) (.cells #[.slice P0 d.s.length p0, .slice Q0 d.p.length q0, .int .i64 d.left, .bool d.st] 25)))
  have F3_ := Aside0.mk (Kd.F_alloc E0.out (.cells #[.slice P0 d.s.length p0, .slice Q0 d.p.length q0, .int .i64 d.left, .bool d.st] 25))
  have F4_ := Aside0.mk (Kd.F_alloc E1.out (.cells #[.slice P0 d.s.length p0, .slice Q0 d.p.length q0, .int .i64 d.left, .bool d.st] 25))
  have F5_ := Aside0.mk (below_alloc F1_.out (.cells #[.slice P0 d.s.length p0, .slice Q0 d.p.length q0, .int .i64 d.left, .bool d.st] 25))
  clear D0 E0 E1 F1_
  have F6_ := Aside0.mk (blk_new w (.cells #[.slice P0 d.s.length p0, .slice Q0 d.p.length q0, .int .i64 d.left, .bool d.st] 25))
  generalize w.alloc (.cells #[.slice P0 d.s.length p0, .slice Q0 d.p.length q0, .int .i64 d.left, .bool d.st] 25) = w1 at *
  go_upto_region 3 with (go_at_call 17; (refine (sane_says _).mono ?_); rintro e w2 ⟨rfl, hb⟩; have F7_ := Aside0.mk (DiskF.below F2_.out hb); have F8_ := Aside0.mk (Kd.F_below F3_.out hb); have F9_ := Aside0.mk (Kd.F_below F4_.out hb); have F10_ := Aside0.mk (below_step F5_.out hb); have F11_ := Aside0.mk (blk_below F6_.out hb); clear F2_ F3_ F4_ F5_ F6_; clear hb)
  have y0 := (blk_cell F11_.out 0).trans rfl
  have y1 := (blk_cell F11_.out 1).trans rfl
  have y2 := (blk_cell F11_.out 2).trans rfl
  have y3 := (blk_cell F11_.out 3).trans rfl
  obtain ⟨r, hr⟩ : ∃ r : Bool, Aside0 (∀ w', Below w2.heap.size w2 w' → Calls Try.prog 18 #[(.agg #[.slice P0 d.s.length p0, .slice Q0 d.p.length q0, .int .i64 d.left, .bool d.st])] w' fun e w'' => e = .returned (.bool r) ∧ Below w'.heap.size w' w'') := few_one F7_.out
  cases r with
    | false =>
      go_wp2_with (go_at_call 18; (refine (hr.out _ (Below.refl _ _)).mono ?_); rintro e w3 ⟨rfl, hb⟩; have F12_ := Aside0.mk (DiskF.below F7_.out hb); have F13_ := Aside0.mk (Kd.F_below F8_.out hb); have F14_ := Aside0.mk (Kd.F_below F9_.out hb); have F15_ := Aside0.mk (below_step F10_.out hb); have F16_ := Aside0.mk (blk_below F11_.out hb); clear F7_ F8_ F9_ F10_ F11_; clear hb)
      go_ret
      exact ⟨rfl, F15_.out⟩
    | true =>
      have q1 : decide ((128 : Int) < (b.length : Int)) = false := decide_eq_false (by omega)
      have q2 : decide ((128 : Int) < (c.length : Int)) = false := decide_eq_false (by omega)
      have HBL := Aside0.mk (show b.length ≤ 128 by omega)
      have HCL := Aside0.mk (show c.length ≤ 128 by omega)
      replace hU := Aside0.mk hU
      replace hX := Aside0.mk hX
      clear hl hl2
      go_upto_region 5 with (go_at_call 18; (refine (hr.out _ (Below.refl _ _)).mono ?_); rintro e w3 ⟨rfl, hb⟩; have F12_ := Aside0.mk (DiskF.below F7_.out hb); have F13_ := Aside0.mk (Kd.F_below F8_.out hb); have F14_ := Aside0.mk (Kd.F_below F9_.out hb); have F15_ := Aside0.mk (below_step F10_.out hb); have F16_ := Aside0.mk (blk_below F11_.out hb); clear F7_ F8_ F9_ F10_ F11_; clear hb)
      clear y0 y1 y2 y3
      clear q1 q2
      have y0 := (blk_cell F16_.out 0).trans rfl
      have y1 := (blk_cell F16_.out 1).trans rfl
      have y2 := (blk_cell F16_.out 2).trans rfl
      have y3 := (blk_cell F16_.out 3).trans rfl
      go_upto_region 6 with (go_at_call 28; (refine ((read_says _ d o _ (DiskF.V F12_.out)).mono (fun e w' h => RE.of h hU.out rfl)).mono ?_); rintro e w4 ⟨⟨A11, c11, rfl, hc11, hd⟩, hb⟩; have F17_ := Aside0.mk (DiskF.below F12_.out hb); have F18_ := Aside0.mk (Kd.F_below F13_.out hb); have F19_ := Aside0.mk (Kd.F_below F14_.out hb); have F20_ := Aside0.mk (below_step F15_.out hb); have F21_ := Aside0.mk (blk_below F16_.out hb); clear F12_ F13_ F14_ F15_ F16_; have F22_ := Aside0.mk (hd); clear hd hb hc11)
      clear y0 y1 y2 y3
      have y0 := (blk_cell F21_.out 0).trans rfl
      have y1 := (blk_cell F21_.out 1).trans rfl
      have y2 := (blk_cell F21_.out 2).trans rfl
      have y3 := (blk_cell F21_.out 3).trans rfl
      go_upto_region 7 with (go_at_call 26; (refine ((write_says _ _ d a b _ (DiskF.V F17_.out) ⟨A3, c3, rfl, hc3.out, Kd.F_now F18_.out⟩).mono (fun e w' h => DE.of h hX.out)).mono ?_); rintro e w5 ⟨⟨P1, p1, Q1, q1, rfl, hd⟩, hb⟩; have F23_ := Aside0.mk (DiskF.below F17_.out hb); have F24_ := Aside0.mk (Kd.F_below F18_.out hb); have F25_ := Aside0.mk (Kd.F_below F19_.out hb); have F26_ := Aside0.mk (below_step F20_.out hb); have F27_ := Aside0.mk (blk_below F21_.out hb); have F28_ := Aside0.mk (Kd.F_below F22_.out hb); clear F17_ F18_ F19_ F20_ F21_ F22_; have F29_ := Aside0.mk (DiskV.F hd); clear hd hb)
      clear y0 y1 y2 y3
      have F30_ := Aside0.mk (DiskF.below F23_.out (below_alloc (Below.refl _ _) (.cells #[.slice P1 X.s.length p1, .slice Q1 X.p.length q1, .int .i64 X.left, .bool X.st] 25)))
      have F31_ := Aside0.mk (Kd.F_alloc F24_.out (.cells #[.slice P1 X.s.length p1, .slice Q1 X.p.length q1, .int .i64 X.left, .bool X.st] 25))
      have F32_ := Aside0.mk (Kd.F_alloc F25_.out (.cells #[.slice P1 X.s.length p1, .slice Q1 X.p.length q1, .int .i64 X.left, .bool X.st] 25))
      have F33_ := Aside0.mk (below_alloc F26_.out (.cells #[.slice P1 X.s.length p1, .slice Q1 X.p.length q1, .int .i64 X.left, .bool X.st] 25))
      have F34_ := Aside0.mk (blk_alloc F27_.out (.cells #[.slice P1 X.s.length p1, .slice Q1 X.p.length q1, .int .i64 X.left, .bool X.st] 25))
      have F35_ := Aside0.mk (Kd.F_alloc F28_.out (.cells #[.slice P1 X.s.length p1, .slice Q1 X.p.length q1, .int .i64 X.left, .bool X.st] 25))
      have F36_ := Aside0.mk (DiskF.below F29_.out (below_alloc (Below.refl _ _) (.cells #[.slice P1 X.s.length p1, .slice Q1 X.p.length q1, .int .i64 X.left, .bool X.st] 25)))
      clear F23_ F24_ F25_ F26_ F27_ F28_ F29_
      have F37_ := Aside0.mk (blk_new w5 (.cells #[.slice P1 X.s.length p1, .slice Q1 X.p.length q1, .int .i64 X.left, .bool X.st] 25))
      generalize w5.alloc (.cells #[.slice P1 X.s.length p1, .slice Q1 X.p.length q1, .int .i64 X.left, .bool X.st] 25) = w6 at *
      generalize w5.heap.size = b13 at *
      go_upto_region 9 with (fail)
      have y0 := (blk_cell F37_.out 0).trans rfl
      have y1 := (blk_cell F37_.out 1).trans rfl
      have y2 := (blk_cell F37_.out 2).trans rfl
      have y3 := (blk_cell F37_.out 3).trans rfl
      go_upto_region 10 with (go_at_call 28; (refine ((read_says _ X o _ (DiskF.V F36_.out)).mono (fun e w' h => RE.of h ((write_read hX.out hU.out).trans (by rw [if_neg hao.out])) rfl)).mono ?_); rintro e w7 ⟨⟨A15, c15, rfl, hc15, hd⟩, hb⟩; have F38_ := Aside0.mk (DiskF.below F30_.out hb); have F39_ := Aside0.mk (Kd.F_below F31_.out hb); have F40_ := Aside0.mk (Kd.F_below F32_.out hb); have F41_ := Aside0.mk (below_step F33_.out hb); have F42_ := Aside0.mk (blk_below F34_.out hb); have F43_ := Aside0.mk (Kd.F_below F35_.out hb); have F44_ := Aside0.mk (DiskF.below F36_.out hb); have F45_ := Aside0.mk (blk_below F37_.out hb); clear F30_ F31_ F32_ F33_ F34_ F35_ F36_ F37_; have F46_ := Aside0.mk (hd); clear hd hb hc15)
      clear y0 y1 y2 y3
      have y0 := (blk_cell F45_.out 0).trans rfl
      have y1 := (blk_cell F45_.out 1).trans rfl
      have y2 := (blk_cell F45_.out 2).trans rfl
      have y3 := (blk_cell F45_.out 3).trans rfl
      go_upto_region 11 with (go_at_call 28; (refine ((read_says _ X a _ (DiskF.V F44_.out)).mono (fun e w' h => RE.of h (write_mine hX.out) (pad_len b HBL.out))).mono ?_); rintro e w8 ⟨⟨A17, c17, rfl, hc17, hd⟩, hb⟩; obtain ⟨ad17, rfl, -⟩ := byte_at hd 0 (by decide); have F47_ := Aside0.mk (DiskF.below F38_.out hb); have F48_ := Aside0.mk (Kd.F_below F39_.out hb); have F49_ := Aside0.mk (Kd.F_below F40_.out hb); have F50_ := Aside0.mk (below_step F41_.out hb); have F51_ := Aside0.mk (blk_below F42_.out hb); have F52_ := Aside0.mk (Kd.F_below F43_.out hb); have F53_ := Aside0.mk (DiskF.below F44_.out hb); have F54_ := Aside0.mk (blk_below F45_.out hb); have F55_ := Aside0.mk (Kd.F_below F46_.out hb); clear F38_ F39_ F40_ F41_ F42_ F43_ F44_ F45_ F46_; have F56_ := Aside0.mk (hd); replace hc17 := Aside0.mk hc17; clear hd hb)
      clear y0 y1 y2 y3
      have hsl : ∀ W : World, (Instr.slice 35 (.slice (some ad17) 128 c17) none (some (.int .i64 (b.length : Int))) none).run Try.prog W = .ok (.slice (some ad17) b.length c17) W := fun W => by
        have q1 : (0 : Int) ≤ (b.length : Int) := by omega
        have q2 : (b.length : Int) ≤ (c17 : Int) := by have := HBL.out; have := hc17.out; omega
        have hu35 := Try.underlying35
        go_simp
      have cv1 := conv_take (c := c17) F56_.out rfl HBL.out
      have cv2 := conv_all (c := c3) F48_.out
      have cv3 := conv_all (c := c11) F52_.out
      have cv4 := conv_all (c := c15) F55_.out
      have hq : (a != o) = true := bne_iff_ne.mpr hao.out
      go_quiet (fail)
      have F57_ := Aside0.mk (DiskF.below F47_.out (pw_below_drewN (Below.refl _ _) nq))
      have F58_ := Aside0.mk (Kd.F_below F48_.out (pw_below_drewN (Below.refl _ _) nq))
      have F59_ := Aside0.mk (Kd.F_below F49_.out (pw_below_drewN (Below.refl _ _) nq))
      have F60_ := Aside0.mk (below_step F50_.out (pw_below_drewN (Below.refl _ _) nq))
      have F61_ := Aside0.mk (blk_below F51_.out (pw_below_drewN (Below.refl _ _) nq))
      have F62_ := Aside0.mk (Kd.F_below F52_.out (pw_below_drewN (Below.refl _ _) nq))
      have F63_ := Aside0.mk (DiskF.below F53_.out (pw_below_drewN (Below.refl _ _) nq))
      have F64_ := Aside0.mk (blk_below F54_.out (pw_below_drewN (Below.refl _ _) nq))
      have F65_ := Aside0.mk (Kd.F_below F55_.out (pw_below_drewN (Below.refl _ _) nq))
      have F66_ := Aside0.mk (Kd.F_below F56_.out (pw_below_drewN (Below.refl _ _) nq))
      clear F47_ F48_ F49_ F50_ F51_ F52_ F53_ F54_ F55_ F56_
      clear hsl cv1 cv2 cv3 cv4 hq
      generalize w8.drewN nq = w9 at *
      clear F66_ F65_ F62_ F58_
      go_upto_region 13 with (fail)
      have y0 := (blk_cell F64_.out 0).trans rfl
      have y1 := (blk_cell F64_.out 1).trans rfl
      have y2 := (blk_cell F64_.out 2).trans rfl
      have y3 := (blk_cell F64_.out 3).trans rfl
      obtain ⟨Y, i, hY⟩ : ∃ Y i, Aside0 (writeD X o c = (Y, i)) := ⟨_, _, ⟨rfl⟩⟩
      have hi := write_again hX.out hU.out HCL.out hY.out
      rcases hi with rfl | rfl
      rotate_left
      · skip
        go_wp2_with (go_at_call 26; (refine ((write_says _ _ X o c _ (DiskF.V F63_.out) ⟨A4, c4, rfl, hc4.out, Kd.F_now F59_.out⟩).mono (fun e w' h => DE.of h hY.out)).mono ?_); rintro e w10 ⟨⟨P2, p2, Q2, q2, rfl, hd⟩, hb⟩; have F67_ := Aside0.mk (DiskF.below F57_.out hb); have F68_ := Aside0.mk (Kd.F_below F59_.out hb); have F69_ := Aside0.mk (below_step F60_.out hb); have F70_ := Aside0.mk (blk_below F61_.out hb); have F71_ := Aside0.mk (DiskF.below F63_.out hb); have F72_ := Aside0.mk (blk_below F64_.out hb); clear F57_ F59_ F60_ F61_ F63_ F64_; have F73_ := Aside0.mk (DiskV.F hd); clear hd hb)
        go_ret
        exact ⟨rfl, below_alloc F69_.out _⟩
      have HYR := Aside0.mk (write_runs hY.out)
      have HXR := Aside0.mk (write_runs hX.out)
      obtain ⟨Z, j, hZ⟩ : ∃ Z j, Aside0 (syncD Y = (Z, j)) := ⟨_, _, ⟨rfl⟩⟩
      go_upto_region 14 with (go_at_call 26; (refine ((write_says _ _ X o c _ (DiskF.V F63_.out) ⟨A4, c4, rfl, hc4.out, Kd.F_now F59_.out⟩).mono (fun e w' h => DE.of h hY.out)).mono ?_); rintro e w10 ⟨⟨P2, p2, Q2, q2, rfl, hd⟩, hb⟩; have F74_ := Aside0.mk (DiskF.below F57_.out hb); have F75_ := Aside0.mk (Kd.F_below F59_.out hb); have F76_ := Aside0.mk (below_step F60_.out hb); have F77_ := Aside0.mk (blk_below F61_.out hb); have F78_ := Aside0.mk (DiskF.below F63_.out hb); have F79_ := Aside0.mk (blk_below F64_.out hb); clear F57_ F59_ F60_ F61_ F63_ F64_; have F80_ := Aside0.mk (DiskV.F hd); clear hd hb)
      clear y0 y1 y2 y3
      have F81_ := Aside0.mk (DiskF.below F74_.out (below_alloc (Below.refl _ _) (.cells #[.slice P2 Y.s.length p2, .slice Q2 Y.p.length q2, .int .i64 Y.left, .bool Y.st] 25)))
      have F82_ := Aside0.mk (Kd.F_alloc F75_.out (.cells #[.slice P2 Y.s.length p2, .slice Q2 Y.p.length q2, .int .i64 Y.left, .bool Y.st] 25))
      have F83_ := Aside0.mk (below_alloc F76_.out (.cells #[.slice P2 Y.s.length p2, .slice Q2 Y.p.length q2, .int .i64 Y.left, .bool Y.st] 25))
      have F84_ := Aside0.mk (blk_alloc F77_.out (.cells #[.slice P2 Y.s.length p2, .slice Q2 Y.p.length q2, .int .i64 Y.left, .bool Y.st] 25))
      have F85_ := Aside0.mk (DiskF.below F78_.out (below_alloc (Below.refl _ _) (.cells #[.slice P2 Y.s.length p2, .slice Q2 Y.p.length q2, .int .i64 Y.left, .bool Y.st] 25)))
      have F86_ := Aside0.mk (blk_alloc F79_.out (.cells #[.slice P2 Y.s.length p2, .slice Q2 Y.p.length q2, .int .i64 Y.left, .bool Y.st] 25))
      have F87_ := Aside0.mk (DiskF.below F80_.out (below_alloc (Below.refl _ _) (.cells #[.slice P2 Y.s.length p2, .slice Q2 Y.p.length q2, .int .i64 Y.left, .bool Y.st] 25)))
      clear F74_ F75_ F76_ F77_ F78_ F79_ F80_
      have F88_ := Aside0.mk (blk_new w10 (.cells #[.slice P2 Y.s.length p2, .slice Q2 Y.p.length q2, .int .i64 Y.left, .bool Y.st] 25))
      generalize w10.alloc (.cells #[.slice P2 Y.s.length p2, .slice Q2 Y.p.length q2, .int .i64 Y.left, .bool Y.st] 25) = w11 at *
      generalize w10.heap.size = b19 at *
      clear F85_ F82_ F86_
      go_upto_region 16 with (fail)
      have y0 := (blk_cell F88_.out 0).trans rfl
      have y1 := (blk_cell F88_.out 1).trans rfl
      have y2 := (blk_cell F88_.out 2).trans rfl
      have y3 := (blk_cell F88_.out 3).trans rfl
      have hj := sync_two HYR.out.1 hZ.out
      rcases hj with ⟨rfl, hst⟩ | ⟨rfl, hzp, hzc, hzr⟩
      · replace hst := Aside0.mk hst
        go_wp2_with (go_at_call 30; (refine ((sync_says _ Y _ (DiskF.V F87_.out)).mono (fun e w' h => DE.of h hZ.out)).mono ?_); rintro e w12 ⟨⟨P3, p3, Q3, q3, rfl, hd⟩, hb⟩; have F89_ := Aside0.mk (DiskF.below F81_.out hb); have F90_ := Aside0.mk (below_step F83_.out hb); have F91_ := Aside0.mk (blk_below F84_.out hb); have F92_ := Aside0.mk (DiskF.below F87_.out hb); have F93_ := Aside0.mk (blk_below F88_.out hb); clear F81_ F83_ F84_ F87_ F88_; have F94_ := Aside0.mk (DiskV.F hd); clear hd hb; rw [hst.out])
        go_ret
        exact ⟨rfl, below_alloc F90_.out _⟩
      replace hzc := Aside0.mk hzc
      replace hzr := Aside0.mk hzr
      replace hzp := Aside0.mk (show Z.p.length = 0 by rw [hzp]; rfl)
      go_upto_region 17 with (go_at_call 30; (refine ((sync_says _ Y _ (DiskF.V F87_.out)).mono (fun e w' h => DE.of h hZ.out)).mono ?_); rintro e w12 ⟨⟨P3, p3, Q3, q3, rfl, hd⟩, hb⟩; have F95_ := Aside0.mk (DiskF.below F81_.out hb); have F96_ := Aside0.mk (below_step F83_.out hb); have F97_ := Aside0.mk (blk_below F84_.out hb); have F98_ := Aside0.mk (DiskF.below F87_.out hb); have F99_ := Aside0.mk (blk_below F88_.out hb); clear F81_ F83_ F84_ F87_ F88_; have F100_ := Aside0.mk (DiskV.F hd); clear hd hb)
      clear y0 y1 y2 y3
      have F101_ := Aside0.mk (DiskF.below F95_.out (below_alloc (Below.refl _ _) (.cells #[.slice P3 Z.s.length p3, .slice Q3 Z.p.length q3, .int .i64 Z.left, .bool Z.st] 25)))
      have F102_ := Aside0.mk (below_alloc F96_.out (.cells #[.slice P3 Z.s.length p3, .slice Q3 Z.p.length q3, .int .i64 Z.left, .bool Z.st] 25))
      have F103_ := Aside0.mk (blk_alloc F97_.out (.cells #[.slice P3 Z.s.length p3, .slice Q3 Z.p.length q3, .int .i64 Z.left, .bool Z.st] 25))
      have F104_ := Aside0.mk (DiskF.below F98_.out (below_alloc (Below.refl _ _) (.cells #[.slice P3 Z.s.length p3, .slice Q3 Z.p.length q3, .int .i64 Z.left, .bool Z.st] 25)))
      have F105_ := Aside0.mk (blk_alloc F99_.out (.cells #[.slice P3 Z.s.length p3, .slice Q3 Z.p.length q3, .int .i64 Z.left, .bool Z.st] 25))
      have F106_ := Aside0.mk (DiskF.below F100_.out (below_alloc (Below.refl _ _) (.cells #[.slice P3 Z.s.length p3, .slice Q3 Z.p.length q3, .int .i64 Z.left, .bool Z.st] 25)))
      clear F95_ F96_ F97_ F98_ F99_ F100_
      have F107_ := Aside0.mk (blk_new w12 (.cells #[.slice P3 Z.s.length p3, .slice Q3 Z.p.length q3, .int .i64 Z.left, .bool Z.st] 25))
      generalize w12.alloc (.cells #[.slice P3 Z.s.length p3, .slice Q3 Z.p.length q3, .int .i64 Z.left, .bool Z.st] 25) = w13 at *
      generalize w12.heap.size = b21 at *
      go_upto_region 19 with (fail)
      go_wp2_with (fail)
      go_loopg [23] d.s.length (fun kq v23 w' => ∃ k : Nat, v23 = .int .i64 k ∧ Aside0 (k ≤ d.s.length ∧ kq + k = d.s.length) ∧ Aside0 (Below w.heap.size w w') ∧ Aside0 (w'.heap[w.heap.size]? = some (.cells #[.slice P0 d.s.length p0, .slice Q0 d.p.length q0, .int .i64 d.left, .bool d.st] 25 (0, 0))) ∧ Aside0 (w'.heap[b19]? = some (.cells #[.slice P2 Y.s.length p2, .slice Q2 Y.p.length q2, .int .i64 Y.left, .bool Y.st] 25 (0, 0))) ∧ Aside0 (w'.heap[b21]? = some (.cells #[.slice P3 Z.s.length p3, .slice Q3 Z.p.length q3, .int .i64 Z.left, .bool Z.st] 25 (0, 0))) ∧ Aside0 (DiskV w' (.agg #[.slice P2 Y.s.length p2, .slice Q2 Y.p.length q2, .int .i64 Y.left, .bool Y.st]) Y) ∧ Aside0 (DiskV w' (.agg #[.slice P3 Z.s.length p3, .slice Q3 Z.p.length q3, .int .i64 Z.left, .bool Z.st]) Z))
      case atStart => exact ⟨0, rfl, ⟨by omega⟩, ⟨F102_.out⟩, ⟨F103_.out⟩, ⟨F105_.out⟩, ⟨F107_.out⟩, ⟨DiskF.V F104_.out⟩, ⟨DiskF.V F106_.out⟩⟩
      clear F102_ F103_ F105_ F107_ F104_ F106_
      obtain ⟨k, rfl, HI, GB, Gb5, Gb19, Gb21, GY, GZ⟩ := hrel
      have x0 := (blk_cell Gb5.out 0).trans rfl
      have x1 := (blk_cell Gb5.out 1).trans rfl
      have x2 := (blk_cell Gb5.out 2).trans rfl
      have x3 := (blk_cell Gb5.out 3).trans rfl
      have y0 := (blk_cell Gb19.out 0).trans rfl
      have y1 := (blk_cell Gb19.out 1).trans rfl
      have y2 := (blk_cell Gb19.out 2).trans rfl
      have y3 := (blk_cell Gb19.out 3).trans rfl
      have z0 := (blk_cell Gb21.out 0).trans rfl
      have z1 := (blk_cell Gb21.out 1).trans rfl
      have z2 := (blk_cell Gb21.out 2).trans rfl
      have z3 := (blk_cell Gb21.out 3).trans rfl
      by_cases hi : k < d.s.length
      · have hi0 : decide (k < d.s.length) = true := decide_eq_true hi
        have hw := Aside0.mk (show wrap64 ((k : Int) + 1) = ((k + 1 : Nat) : Int) by have := HM0.out; unfold wrap64; omega)
        obtain ⟨V, hv1, hv2⟩ := hzr.out k (by rw [HYR.out.2, HXR.out.2]; exact hi)
        replace hv1 := Aside0.mk hv1
        replace hv2 := Aside0.mk hv2
        go_upto_region 23 with (go_at_call 28; (refine ((read_says _ Y k _ GY.out).mono (fun e w' h => RE.of h hv1.out rfl)).mono ?_); rintro e w14 ⟨⟨A24, c24, rfl, hc24, hd⟩, hb⟩; have M1 := Aside0.mk (below_step GB.out hb); have M2 := Aside0.mk (blk_below Gb5.out hb); have M3 := Aside0.mk (blk_below Gb19.out hb); have Gb21b := Aside0.mk (blk_below Gb21.out hb); have M5 := Aside0.mk (DiskV.below GY.out hb); have M6 := Aside0.mk (DiskV.below GZ.out hb); have hr1 := Aside0.mk hd; clear hd hb hc24 z0 z1 z2 z3 y0 y1 y2 y3 x0 x1 x2 x3; have z0 := (blk_cell Gb21b.out 0).trans rfl; have z1 := (blk_cell Gb21b.out 1).trans rfl; have z2 := (blk_cell Gb21b.out 2).trans rfl; have z3 := (blk_cell Gb21b.out 3).trans rfl)
        go_wp2_with (go_at_call 28; (refine ((read_says _ Z k _ M6.out).mono (fun e w' h => RE.of h hv2.out rfl)).mono ?_); rintro e w15 ⟨⟨A26, c26, rfl, hc26, hd⟩, hb⟩; have N1 := Aside0.mk (below_step M1.out hb); have N2 := Aside0.mk (blk_below M2.out hb); have N3 := Aside0.mk (blk_below M3.out hb); have N4 := Aside0.mk (blk_below Gb21b.out hb); have N5 := Aside0.mk (DiskV.below M5.out hb); have N6 := Aside0.mk (DiskV.below M6.out hb); have cv1 := Kd.C_string (P := Try.prog) (c := c24) Try.underlying35 Try.underlying5 Try.underlying9 (Kd.F_now (Kd.F_below hr1.out hb)); have cv2 := Kd.C_string (P := Try.prog) (c := c26) Try.underlying35 Try.underlying5 Try.underlying9 (Kd.F_now hd); clear hd hb hc26 z0 z1 z2 z3)
        go_roundg (gk - 1)
        case measure => have := HI.out; omega
        case rel => exact ⟨k + 1, by rw [hw.out], ⟨by have := HI.out; omega⟩, N1, N2, N3, N4, N5, N6⟩
      · have hi0 : decide (k < d.s.length) = false := decide_eq_false hi
        have hq : ((Z.p.length : Int) == 0) = true := by rw [hzp.out]; rfl
        go_wp2_with (go_at_call 22; (refine (check_says _ Z _ GZ.out).mono ?_); rintro e w16 ⟨he, hb⟩; rw [hzc.out] at he; subst he; have NB := Aside0.mk (below_step GB.out hb); clear hb)
        go_ret
        exact ⟨rfl, NB.out⟩
theorem reads_says (v v3 v4 : Value) (d : Dk) (a o : Int) (b c : List Int) (w : World) (h : DiskV w v d) (h2 : BytesV w v3 b) (h4 : BytesV w v4 c) : Calls Try.prog 8 #[v, .int .i64 a, .int .i64 o, v3, v4] w fun e w' => e = .returned (.bool true) ∧ Below w.heap.size w w' := by
  have g := h
  have g2 := h2
  have g4 := h4
  obtain ⟨P0, p0, Q0, q0, rfl, -⟩ := g
  obtain ⟨A3, c3, rfl, -⟩ := g2
  obtain ⟨A4, c4, rfl, -⟩ := g4
  by_cases hl : 128 < b.length
  · exact reads_long1 P0 p0 Q0 q0 d a o A3 c3 b A4 c4 c w h h2 h4 hl
  by_cases hl2 : 128 < c.length
  · exact reads_long2 P0 p0 Q0 q0 d a o A3 c3 b A4 c4 c w h h2 h4 hl hl2
  by_cases hno : ∃ U X, readD d o = (U, 0) ∧ writeD d a b = (X, 0)
  · obtain ⟨U, X, hU, hX⟩ := hno
    by_cases hao : a = o
    · exact reads_same P0 p0 Q0 q0 d a o A3 c3 b A4 c4 c w h h2 h4 hl hl2 U X hU hX hao
    · exact reads_other P0 p0 Q0 q0 d a o A3 c3 b A4 c4 c w h h2 h4 hl hl2 U X hU hX hao
  · exact reads_no P0 p0 Q0 q0 d a o A3 c3 b A4 c4 c w h h2 h4 hl hl2 hno
end Go.Proofs.Ytlnmjgkeiljniaa.Q
