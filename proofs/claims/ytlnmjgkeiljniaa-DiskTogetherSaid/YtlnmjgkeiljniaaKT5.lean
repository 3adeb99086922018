/- The proof's texts, part 6 of 7. -/
import Derived.Test.YtlnmjgkeiljniaaKT4
set_option linter.unusedVariables false
set_option linter.unusedSimpArgs false
/- sizarlaw45.DiskTogether, walked. -/
namespace Go.Proofs.Ytlnmjgkeiljniaa.Q
open Go.RowKit Go.Proofs.YtlnmjgkeiljniaaW.PrintWords Go.Proofs.YtlnmjgkeiljniaaW.PrintLast Go.Proofs.YtlnmjgkeiljniaaW.PrintMore
set_option linter.unusedVariables false
set_option linter.unusedSimpArgs false
set_option maxHeartbeats 8000000 in
set_option maxRecDepth 100000 in
theorem together_walk (P0 : Option Addr) (p0 : Nat) (Q0 : Option Addr) (q0 : Nat) (d : Dk) (A1 : Option Addr) (c1 : Nat) (l : List S57) (w : World) (h : DiskV w (.agg #[.slice P0 d.s.length p0, .slice Q0 d.p.length q0, .int .i64 d.left, .bool d.st]) d) (h2 : k57.C w A1 l.length l) (hby : ∀ x ∈ l, 0 ≤ x.f1 ∧ x.f1 < 256) : Calls Try.prog 10 #[(.agg #[.slice P0 d.s.length p0, .slice Q0 d.p.length q0, .int .i64 d.left, .bool d.st]), .slice A1 l.length c1] w fun e w' => e = .returned (.bool true) ∧ Below w.heap.size w w' := by
  have hu25 := Try.underlying25
  have HBY := Aside0.mk hby
  have D0 := Aside0.mk (DiskV.F h)
  have E0 := Aside0.mk (Kd.C_F k57_heap h2)
  have HLM := Aside0.mk h2.2.1
  have F1_ := Aside0.mk (Below.refl w.heap.size w)
  clear h h2 hby
  go_enter Try.func10, Try.ntmps10
  go_upto_region 1 with (fail)
  have F2_ := Aside0.mk (DiskF.below D0.out (below_alloc (Below.refl _ _) (.cells #[.slice P0 d.s.length p0, .slice Q0 d.p.length q0, .int .i64 d.left, .bool d.st] 25)))
  have F3_ := Aside0.mk (Kd.F_alloc E0.out (.cells #[.slice P0 d.s.length p0, .slice Q0 d.p.length q0, .int .i64 d.left, .bool d.st] 25))
  have F4_ := Aside0.mk (below_alloc F1_.out (.cells #[.slice P0 d.s.length p0, .slice Q0 d.p.length q0, .int .i64 d.left, .bool d.st] 25))
  clear D0 E0 F1_
  have F5_ := Aside0.mk (blk_new w (.cells #[.slice P0 d.s.length p0, .slice Q0 d.p.length q0, .int .i64 d.left, .bool d.st] 25))
  generalize w.alloc (.cells #[.slice P0 d.s.length p0, .slice Q0 d.p.length q0, .int .i64 d.left, .bool d.st] 25) = w1 at *
  go_upto_region 3 with (go_at_call 17; (refine (sane_says _).mono ?_); rintro e w2 ⟨rfl, hb⟩; have F6_ := Aside0.mk (DiskF.below F2_.out hb); have F7_ := Aside0.mk (Kd.F_below F3_.out hb); have F8_ := Aside0.mk (below_step F4_.out hb); have F9_ := Aside0.mk (blk_below F5_.out hb); clear F2_ F3_ F4_ F5_; clear hb)
  have y0 := (blk_cell F9_.out 0).trans rfl
  have y1 := (blk_cell F9_.out 1).trans rfl
  have y2 := (blk_cell F9_.out 2).trans rfl
  have y3 := (blk_cell F9_.out 3).trans rfl
  obtain ⟨r, hr⟩ : ∃ r : Bool, Aside0 (∀ w', Below w2.heap.size w2 w' → Calls Try.prog 18 #[(.agg #[.slice P0 d.s.length p0, .slice Q0 d.p.length q0, .int .i64 d.left, .bool d.st])] w' fun e w'' => e = .returned (.bool r) ∧ Below w'.heap.size w' w'') := few_one F6_.out
  cases r with
    | false =>
      go_wp2_with (go_at_call 18; (refine (hr.out _ (Below.refl _ _)).mono ?_); rintro e w3 ⟨rfl, hb⟩; have F10_ := Aside0.mk (DiskF.below F6_.out hb); have F11_ := Aside0.mk (Kd.F_below F7_.out hb); have F12_ := Aside0.mk (below_step F8_.out hb); have F13_ := Aside0.mk (blk_below F9_.out hb); clear F6_ F7_ F8_ F9_; clear hb y0 y1 y2 y3; have y0 := (blk_cell F13_.out 0).trans rfl; have y1 := (blk_cell F13_.out 1).trans rfl; have y2 := (blk_cell F13_.out 2).trans rfl; have y3 := (blk_cell F13_.out 3).trans rfl)
      go_ret
      exact ⟨rfl, F12_.out⟩
    | true =>
      cases q20 : decide ((20 : Int) < (l.length : Int)) with
        | true =>
          go_wp2_with (go_at_call 18; (refine (hr.out _ (Below.refl _ _)).mono ?_); rintro e w3 ⟨rfl, hb⟩; have F10_ := Aside0.mk (DiskF.below F6_.out hb); have F11_ := Aside0.mk (Kd.F_below F7_.out hb); have F12_ := Aside0.mk (below_step F8_.out hb); have F13_ := Aside0.mk (blk_below F9_.out hb); clear F6_ F7_ F8_ F9_; clear hb y0 y1 y2 y3; have y0 := (blk_cell F13_.out 0).trans rfl; have y1 := (blk_cell F13_.out 1).trans rfl; have y2 := (blk_cell F13_.out 2).trans rfl; have y3 := (blk_cell F13_.out 3).trans rfl)
          go_ret
          exact ⟨rfl, F12_.out⟩
        | false =>
          cases qp : decide (0 < d.p.length) with
            | true =>
              go_wp2_with (go_at_call 18; (refine (hr.out _ (Below.refl _ _)).mono ?_); rintro e w3 ⟨rfl, hb⟩; have F10_ := Aside0.mk (DiskF.below F6_.out hb); have F11_ := Aside0.mk (Kd.F_below F7_.out hb); have F12_ := Aside0.mk (below_step F8_.out hb); have F13_ := Aside0.mk (blk_below F9_.out hb); clear F6_ F7_ F8_ F9_; clear hb y0 y1 y2 y3; have y0 := (blk_cell F13_.out 0).trans rfl; have y1 := (blk_cell F13_.out 1).trans rfl; have y2 := (blk_cell F13_.out 2).trans rfl; have y3 := (blk_cell F13_.out 3).trans rfl)
              go_ret
              exact ⟨rfl, F12_.out⟩
            | false =>
              cases qs : ((d.s.length : Int) == 0) with
                | true =>
                  go_wp2_with (go_at_call 18; (refine (hr.out _ (Below.refl _ _)).mono ?_); rintro e w3 ⟨rfl, hb⟩; have F10_ := Aside0.mk (DiskF.below F6_.out hb); have F11_ := Aside0.mk (Kd.F_below F7_.out hb); have F12_ := Aside0.mk (below_step F8_.out hb); have F13_ := Aside0.mk (blk_below F9_.out hb); clear F6_ F7_ F8_ F9_; clear hb y0 y1 y2 y3; have y0 := (blk_cell F13_.out 0).trans rfl; have y1 := (blk_cell F13_.out 1).trans rfl; have y2 := (blk_cell F13_.out 2).trans rfl; have y3 := (blk_cell F13_.out 3).trans rfl)
                  go_ret
                  exact ⟨rfl, F12_.out⟩
                | false =>
                  rcases (show checkD d = 450 ∨ checkD d = 0 from by unfold checkD; split; exact .inr rfl; exact .inl rfl) with hk | hk
                  · have HK := Aside0.mk hk
                    clear hk
                    go_wp2_with (first | (go_at_call 18; (refine (hr.out _ (Below.refl _ _)).mono ?_); rintro e w3 ⟨rfl, hb⟩; have F10_ := Aside0.mk (DiskF.below F6_.out hb); have F11_ := Aside0.mk (Kd.F_below F7_.out hb); have F12_ := Aside0.mk (below_step F8_.out hb); have F13_ := Aside0.mk (blk_below F9_.out hb); clear F6_ F7_ F8_ F9_; clear hb y0 y1 y2 y3; have y0 := (blk_cell F13_.out 0).trans rfl; have y1 := (blk_cell F13_.out 1).trans rfl; have y2 := (blk_cell F13_.out 2).trans rfl; have y3 := (blk_cell F13_.out 3).trans rfl) | ((with_reducible refine gate_callee (f := 22) rfl ?_); refine goesG_ (some 40) rfl (by rfl) Try.func22 (by kernel_rfl) rfl #[(.agg #[.slice P0 d.s.length p0, .slice Q0 d.p.length q0, .int .i64 d.left, .bool d.st])] rfl (by (try simp only [List.map_toArray, List.map_cons, List.map_nil]); first | done | rfl) ?_; (refine (check_says _ d _ (DiskF.V F10_.out)).mono ?_); rintro e w4 ⟨he, hb⟩; rw [HK.out] at he; obtain rfl := he; refine ⟨_, rfl, ?_⟩; have F14_ := Aside0.mk (DiskF.below F10_.out hb); have F15_ := Aside0.mk (Kd.F_below F11_.out hb); have F16_ := Aside0.mk (below_step F12_.out hb); have F17_ := Aside0.mk (blk_below F13_.out hb); clear F10_ F11_ F12_ F13_; clear hb y0 y1 y2 y3; have y0 := (blk_cell F17_.out 0).trans rfl; have y1 := (blk_cell F17_.out 1).trans rfl; have y2 := (blk_cell F17_.out 2).trans rfl; have y3 := (blk_cell F17_.out 3).trans rfl))
                    go_ret
                    exact ⟨rfl, F16_.out⟩
                  · have HK := Aside0.mk hk
                    clear hk
                    cases hst : d.st with
                      | true =>
                        have HST := Aside0.mk hst
                        clear hst
                        go_wp2_with (first | (go_at_call 18; (refine (hr.out _ (Below.refl _ _)).mono ?_); rintro e w3 ⟨rfl, hb⟩; have F10_ := Aside0.mk (DiskF.below F6_.out hb); have F11_ := Aside0.mk (Kd.F_below F7_.out hb); have F12_ := Aside0.mk (below_step F8_.out hb); have F13_ := Aside0.mk (blk_below F9_.out hb); clear F6_ F7_ F8_ F9_; clear hb y0 y1 y2 y3; have y0 := (blk_cell F13_.out 0).trans rfl; have y1 := (blk_cell F13_.out 1).trans rfl; have y2 := (blk_cell F13_.out 2).trans rfl; have y3 := (blk_cell F13_.out 3).trans rfl) | ((with_reducible refine gate_callee (f := 22) rfl ?_); refine goesG_ (some 40) rfl (by rfl) Try.func22 (by kernel_rfl) rfl #[(.agg #[.slice P0 d.s.length p0, .slice Q0 d.p.length q0, .int .i64 d.left, .bool d.st])] rfl (by (try simp only [List.map_toArray, List.map_cons, List.map_nil]); first | done | rfl) ?_; (refine (check_says _ d _ (DiskF.V F10_.out)).mono ?_); rintro e w4 ⟨he, hb⟩; rw [HK.out] at he; obtain rfl := he; refine ⟨_, rfl, ?_⟩; have F18_ := Aside0.mk (DiskF.below F10_.out hb); have F19_ := Aside0.mk (Kd.F_below F11_.out hb); have F20_ := Aside0.mk (below_step F12_.out hb); have F21_ := Aside0.mk (blk_below F13_.out hb); clear F10_ F11_ F12_ F13_; clear hb y0 y1 y2 y3; have y0 := (blk_cell F21_.out 0).trans rfl; have y1 := (blk_cell F21_.out 1).trans rfl; have y2 := (blk_cell F21_.out 2).trans rfl; have y3 := (blk_cell F21_.out 3).trans rfl; replace y3 := y3.trans (show some (Value.bool d.st) = some (Value.bool true) from by rw [HST.out])))
                        go_ret
                        exact ⟨rfl, F20_.out⟩
                      | false =>
                        have HST := Aside0.mk hst
                        clear hst
                        have HT := Aside0.mk (TogD.mk' (l := l) (show runsD d = true from by unfold runsD; rw [HST.out]; have h_ := HK.out; unfold checkD at h_; cases hk_ : okD d with | true => rfl | false => rw [hk_] at h_; exact absurd h_ (by decide)) (List.eq_nil_of_length_eq_zero (by have := of_decide_eq_false qp; omega)) (by have := of_decide_eq_false q20; omega))
                        go_upto_region 5 with (first | (go_at_call 18; (refine (hr.out _ (Below.refl _ _)).mono ?_); rintro e w3 ⟨rfl, hb⟩; have F10_ := Aside0.mk (DiskF.below F6_.out hb); have F11_ := Aside0.mk (Kd.F_below F7_.out hb); have F12_ := Aside0.mk (below_step F8_.out hb); have F13_ := Aside0.mk (blk_below F9_.out hb); clear F6_ F7_ F8_ F9_; clear hb y0 y1 y2 y3; have y0 := (blk_cell F13_.out 0).trans rfl; have y1 := (blk_cell F13_.out 1).trans rfl; have y2 := (blk_cell F13_.out 2).trans rfl; have y3 := (blk_cell F13_.out 3).trans rfl) | ((with_reducible refine gate_callee (f := 22) rfl ?_); refine goesG_ (some 40) rfl (by rfl) Try.func22 (by kernel_rfl) rfl #[(.agg #[.slice P0 d.s.length p0, .slice Q0 d.p.length q0, .int .i64 d.left, .bool d.st])] rfl (by (try simp only [List.map_toArray, List.map_cons, List.map_nil]); first | done | rfl) ?_; (refine (check_says _ d _ (DiskF.V F10_.out)).mono ?_); rintro e w4 ⟨he, hb⟩; rw [HK.out] at he; obtain rfl := he; refine ⟨_, rfl, ?_⟩; have F22_ := Aside0.mk (DiskF.below F10_.out hb); have F23_ := Aside0.mk (Kd.F_below F11_.out hb); have F24_ := Aside0.mk (below_step F12_.out hb); have F25_ := Aside0.mk (blk_below F13_.out hb); clear F10_ F11_ F12_ F13_; clear hb y0 y1 y2 y3; have y0 := (blk_cell F25_.out 0).trans rfl; have y1 := (blk_cell F25_.out 1).trans rfl; have y2 := (blk_cell F25_.out 2).trans rfl; have y3 := (blk_cell F25_.out 3).trans rfl; replace y3 := y3.trans (show some (Value.bool d.st) = some (Value.bool false) from by rw [HST.out])))
                        clear y0 y1 y2 y3
                        clear hr HK q20 qp qs
                        refine start_ (n := 6) (S := fun w' => Below w4.drew.heap.size w4.drew w') (ds := []) #[false, false, false, false, false, false] (by kernel_rfl) rfl rfl (Below.refl _ _) (fun hHeld => ?_)
                        have F26_ := Aside0.mk (DiskF.below F22_.out (below_drew1 (Below.refl _ _)))
                        have F27_ := Aside0.mk (Kd.F_drew F23_.out)
                        have F28_ := Aside0.mk (below_drew1 F24_.out)
                        have F29_ := Aside0.mk (blk_drew F25_.out)
                        clear F22_ F23_ F24_ F25_
                        generalize w4.drew = w5 at *
                        have hold_b2 := F29_.out
                        refine take_ (i := 0) (N := some 47) (v := ?_) (a' := ?_) #[true, false, false, false, false, false] rfl rfl (by kernel_rfl) (fun _ _ _ h => h) (Or.inl ⟨by rfl, ?_⟩) hHeld ?_ ?_
                        rotate_left
                        · rintro w' s0
                          have hz0 := blk_below hold_b2 s0
                          have yy00 := (blk_cell hz0 0).trans rfl
                          have yy01 := (blk_cell hz0 1).trans rfl
                          have yy02 := (blk_cell hz0 2).trans rfl
                          have yy03 := (blk_cell hz0 3).trans rfl
                          go_simp
                          with_reducible rfl
                        rotate_left
                        · simp only [Act.put, List.setIfInBounds_toArray, List.set_cons_zero, List.set_cons_succ, i64_w, i32_w]
                          rfl
                        refine take_ (i := 1) (N := some 48) (v := ?_) (a' := ?_) #[true, true, false, false, false, false] rfl rfl (by kernel_rfl) (fun _ _ _ h => h) (Or.inl ⟨by rfl, ?_⟩) hHeld ?_ ?_
                        rotate_left
                        · rintro w' s0
                          have hz0 := blk_below hold_b2 s0
                          have yy00 := (blk_cell hz0 0).trans rfl
                          have yy01 := (blk_cell hz0 1).trans rfl
                          have yy02 := (blk_cell hz0 2).trans rfl
                          have yy03 := (blk_cell hz0 3).trans rfl
                          go_simp
                          with_reducible rfl
                        rotate_left
                        · simp only [Act.put, List.setIfInBounds_toArray, List.set_cons_zero, List.set_cons_succ, i64_w, i32_w]
                          rfl
                        refine join_ (σ := Nat × Nat) 2 #[true, true, true, true, false, false] (fun s_ => [(5, .pointer (some ⟨s_.1, 0, none⟩)), (6, .pointer (some ⟨s_.2, 0, none⟩))]) (fun s_ w' => Below w5.heap.size w5 w' ∧ w'.heap[s_.1]? = some (.cells #[.slice none 0 0, .slice none 0 0, .int .i64 0, .bool false] 25 (0, 0)) ∧ w'.heap[s_.2]? = some (.cells #[.slice none 0 0, .slice none 0 0, .int .i64 0, .bool false] 25 (0, 0)) ∧ s_.1 ≠ s_.2 ∧ w5.heap.size ≤ s_.1 ∧ w5.heap.size ≤ s_.2) ?_ ?_
                        rotate_left
                        · intro hCont
                          refine two_ (i := 2) (j := 3) (Ni := some 5) (Nj := some 6) #[true, true, true, false, false, false] #[true, true, false, true, false, false] rfl rfl rfl rfl (by kernel_rfl) (by decide) (by decide) (fun K hK => ?_) (fun K hK => ?_)
                          · skip
                            refine value_ (w1 := ?_) (v := ?_) (by rfl) rfl ?_ ?_
                            rotate_left 2
                            · go_simp
                              constructor
                              · rfl
                              · rfl
                            refine hK.out _ _ (below_alloc hHeld _) (fun hHeld => ?_)
                            clear hK K
                            refine norm_ (a' := ?_) ?_ ?_
                            rotate_left
                            · show Act.put _ (some 5) _ = _
                              simp only [Act.put, List.setIfInBounds_toArray, List.set_cons_zero, List.set_cons_succ, i64_w, i32_w]
                              rfl
                            refine one_ (i := 3) (N := some 6) #[true, true, true, true, false, false] rfl rfl (by kernel_rfl) (by decide) (fun K hK => ?_)
                            refine value_ (w1 := ?_) (v := ?_) (by rfl) rfl ?_ ?_
                            rotate_left 2
                            · go_simp
                              constructor
                              · rfl
                              · rfl
                            refine hK.out _ _ (below_alloc hHeld _) (fun hHeld => ?_)
                            clear hK K
                            refine norm_ (a' := ?_) ?_ ?_
                            rotate_left
                            · show Act.put _ (some 6) _ = _
                              simp only [Act.put, List.setIfInBounds_toArray, List.set_cons_zero, List.set_cons_succ, i64_w, i32_w]
                              rfl
                            exact norm_ (by simp only [putAll, Act.put, List.setIfInBounds_toArray, List.set_cons_zero, List.set_cons_succ]) (hCont (w5.heap.size, w5.heap.size + 1) _ ⟨hHeld, blk_alloc (blk_new w5 (.cells #[.slice none 0 0, .slice none 0 0, .int .i64 0, .bool false] 25)) (.cells #[.slice none 0 0, .slice none 0 0, .int .i64 0, .bool false] 25), (by have h_ := blk_new (w5.alloc (.cells #[.slice none 0 0, .slice none 0 0, .int .i64 0, .bool false] 25)) (.cells #[.slice none 0 0, .slice none 0 0, .int .i64 0, .bool false] 25); rw [World.size_alloc] at h_; exact h_), by dsimp only; omega, Nat.le_refl _, Nat.le_succ _⟩)
                          · skip
                            refine value_ (w1 := ?_) (v := ?_) (by rfl) rfl ?_ ?_
                            rotate_left 2
                            · go_simp
                              constructor
                              · rfl
                              · rfl
                            refine hK.out _ _ (below_alloc hHeld _) (fun hHeld => ?_)
                            clear hK K
                            refine norm_ (a' := ?_) ?_ ?_
                            rotate_left
                            · show Act.put _ (some 6) _ = _
                              simp only [Act.put, List.setIfInBounds_toArray, List.set_cons_zero, List.set_cons_succ, i64_w, i32_w]
                              rfl
                            refine one_ (i := 2) (N := some 5) #[true, true, true, true, false, false] rfl rfl (by kernel_rfl) (by decide) (fun K hK => ?_)
                            refine value_ (w1 := ?_) (v := ?_) (by rfl) rfl ?_ ?_
                            rotate_left 2
                            · go_simp
                              constructor
                              · rfl
                              · rfl
                            refine hK.out _ _ (below_alloc hHeld _) (fun hHeld => ?_)
                            clear hK K
                            refine norm_ (a' := ?_) ?_ ?_
                            rotate_left
                            · show Act.put _ (some 5) _ = _
                              simp only [Act.put, List.setIfInBounds_toArray, List.set_cons_zero, List.set_cons_succ, i64_w, i32_w]
                              rfl
                            exact norm_ (by simp only [putAll, Act.put, List.setIfInBounds_toArray, List.set_cons_zero, List.set_cons_succ]) (hCont (w5.heap.size + 1, w5.heap.size) _ ⟨hHeld, (by have h_ := blk_new (w5.alloc (.cells #[.slice none 0 0, .slice none 0 0, .int .i64 0, .bool false] 25)) (.cells #[.slice none 0 0, .slice none 0 0, .int .i64 0, .bool false] 25); rw [World.size_alloc] at h_; exact h_), blk_alloc (blk_new w5 (.cells #[.slice none 0 0, .slice none 0 0, .int .i64 0, .bool false] 25)) (.cells #[.slice none 0 0, .slice none 0 0, .int .i64 0, .bool false] 25), by dsimp only; omega, Nat.le_succ _, Nat.le_refl _⟩)
                        rintro ⟨b5, b6⟩ w6 ⟨hHeld, ⟨hx5, hx6, hne, hle5, hle6⟩⟩
                        dsimp only at *
                        refine norm_ (a' := ?_) ?_ ?_
                        rotate_left
                        · simp only [putAll, Act.put, List.setIfInBounds_toArray, List.set_cons_zero, List.set_cons_succ]
                          rfl
                        have HN := Aside0.mk (show w.heap.size < b5 ∧ w.heap.size < b6 ∧ b5 ≠ b6 from ⟨Nat.lt_of_lt_of_le (blk_lt F29_.out) hle5, Nat.lt_of_lt_of_le (blk_lt F29_.out) hle6, hne⟩)
                        have F30_ := Aside0.mk (DiskF.below F26_.out hHeld)
                        have F31_ := Aside0.mk (Kd.F_below F27_.out hHeld)
                        have F32_ := Aside0.mk (below_step F28_.out hHeld)
                        have F33_ := Aside0.mk (blk_below F29_.out hHeld)
                        clear F26_ F27_ F28_ F29_
                        have F34_ := Aside0.mk (hx5)
                        have F35_ := Aside0.mk (hx6)
                        clear hx5 hx6 hne
                        replace hle5 := Aside0.mk hle5
                        replace hle6 := Aside0.mk hle6
                        have z0 := (blk_cell F34_.out 0).trans rfl
                        have z1 := (blk_cell F34_.out 1).trans rfl
                        have z2 := (blk_cell F34_.out 2).trans rfl
                        have z3 := (blk_cell F34_.out 3).trans rfl
                        have zf0 := blk_frozen F34_.out 0
                        have zf1 := blk_frozen F34_.out 1
                        have zf2 := blk_frozen F34_.out 2
                        have zf3 := blk_frozen F34_.out 3
                        refine one_ (i := 4) (N := none) #[true, true, true, true, true, false] rfl rfl (by kernel_rfl) (by decide) (fun K hK => ?_)
                        refine skip_ (w1 := ?_) (by rfl) rfl ?_ ?_
                        rotate_left
                        · go_simp
                          rfl
                        refine hK.out _ _ (by refine Below.setCell ?_ hle5.out _; refine Below.setCell ?_ hle5.out _; refine Below.setCell ?_ hle5.out _; refine Below.setCell ?_ hle5.out _; exact hHeld) (fun hHeld => ?_)
                        clear hK K
                        clear z0 z1 z2 z3
                        clear zf0 zf1 zf2 zf3
                        have F36_ := Aside0.mk (DiskF.far (DiskF.far (DiskF.far (DiskF.far F30_.out (p := ⟨b5, 0, none⟩) (fun k_ hk_ => by have := HN.out; dsimp only at hk_ ⊢; omega) (.slice P0 d.s.length p0)) (p := ⟨b5, 1, none⟩) (fun k_ hk_ => by have := HN.out; dsimp only at hk_ ⊢; omega) (.slice Q0 d.p.length q0)) (p := ⟨b5, 2, none⟩) (fun k_ hk_ => by have := HN.out; dsimp only at hk_ ⊢; omega) (.int .i64 d.left)) (p := ⟨b5, 3, none⟩) (fun k_ hk_ => by have := HN.out; dsimp only at hk_ ⊢; omega) (.bool d.st))
                        have F37_ := Aside0.mk (Kd.F_far (Kd.F_far (Kd.F_far (Kd.F_far F31_.out (p := ⟨b5, 0, none⟩) (fun k_ hk_ => by have := HN.out; dsimp only at hk_ ⊢; omega) (.slice P0 d.s.length p0)) (p := ⟨b5, 1, none⟩) (fun k_ hk_ => by have := HN.out; dsimp only at hk_ ⊢; omega) (.slice Q0 d.p.length q0)) (p := ⟨b5, 2, none⟩) (fun k_ hk_ => by have := HN.out; dsimp only at hk_ ⊢; omega) (.int .i64 d.left)) (p := ⟨b5, 3, none⟩) (fun k_ hk_ => by have := HN.out; dsimp only at hk_ ⊢; omega) (.bool d.st))
                        have F38_ := Aside0.mk (Below.setCell (p := ⟨b5, 3, none⟩) (Below.setCell (p := ⟨b5, 2, none⟩) (Below.setCell (p := ⟨b5, 1, none⟩) (Below.setCell (p := ⟨b5, 0, none⟩) F32_.out (Nat.le_of_lt HN.out.1) (.slice P0 d.s.length p0)) (Nat.le_of_lt HN.out.1) (.slice Q0 d.p.length q0)) (Nat.le_of_lt HN.out.1) (.int .i64 d.left)) (Nat.le_of_lt HN.out.1) (.bool d.st))
                        have F39_ := Aside0.mk (blk_far (blk_far (blk_far (blk_far F33_.out (p := ⟨b5, 0, none⟩) (by have := HN.out; simp; omega) (.slice P0 d.s.length p0)) (p := ⟨b5, 1, none⟩) (by have := HN.out; simp; omega) (.slice Q0 d.p.length q0)) (p := ⟨b5, 2, none⟩) (by have := HN.out; simp; omega) (.int .i64 d.left)) (p := ⟨b5, 3, none⟩) (by have := HN.out; simp; omega) (.bool d.st))
                        have F40_ := Aside0.mk (show ((((w6.setCell ⟨b5, 0, none⟩ (.slice P0 d.s.length p0)).setCell ⟨b5, 1, none⟩ (.slice Q0 d.p.length q0)).setCell ⟨b5, 2, none⟩ (.int .i64 d.left)).setCell ⟨b5, 3, none⟩ (.bool d.st)).heap[b5]? = some (.cells #[.slice P0 d.s.length p0, .slice Q0 d.p.length q0, .int .i64 d.left, .bool d.st] 25 (0, 0)) from (blk_set (blk_set (blk_set (blk_set F34_.out 0 (.slice P0 d.s.length p0)) 1 (.slice Q0 d.p.length q0)) 2 (.int .i64 d.left)) 3 (.bool d.st)))
                        have F41_ := Aside0.mk (blk_far (blk_far (blk_far (blk_far F35_.out (p := ⟨b5, 0, none⟩) (by have := HN.out; simp; omega) (.slice P0 d.s.length p0)) (p := ⟨b5, 1, none⟩) (by have := HN.out; simp; omega) (.slice Q0 d.p.length q0)) (p := ⟨b5, 2, none⟩) (by have := HN.out; simp; omega) (.int .i64 d.left)) (p := ⟨b5, 3, none⟩) (by have := HN.out; simp; omega) (.bool d.st))
                        clear F30_ F31_ F32_ F33_ F34_ F35_
                        generalize ((((w6.setCell ⟨b5, 0, none⟩ (.slice P0 d.s.length p0)).setCell ⟨b5, 1, none⟩ (.slice Q0 d.p.length q0)).setCell ⟨b5, 2, none⟩ (.int .i64 d.left)).setCell ⟨b5, 3, none⟩ (.bool d.st)) = w7 at *
                        have z0 := (blk_cell F41_.out 0).trans rfl
                        have z1 := (blk_cell F41_.out 1).trans rfl
                        have z2 := (blk_cell F41_.out 2).trans rfl
                        have z3 := (blk_cell F41_.out 3).trans rfl
                        have zf0 := blk_frozen F41_.out 0
                        have zf1 := blk_frozen F41_.out 1
                        have zf2 := blk_frozen F41_.out 2
                        have zf3 := blk_frozen F41_.out 3
                        refine one_ (i := 5) (N := none) #[true, true, true, true, true, true] rfl rfl (by kernel_rfl) (by decide) (fun K hK => ?_)
                        refine skip_ (w1 := ?_) (by rfl) rfl ?_ ?_
                        rotate_left
                        · go_simp
                          rfl
                        refine hK.out _ _ (by refine Below.setCell ?_ hle6.out _; refine Below.setCell ?_ hle6.out _; refine Below.setCell ?_ hle6.out _; refine Below.setCell ?_ hle6.out _; exact hHeld) (fun hHeld => ?_)
                        clear hK K
                        clear z0 z1 z2 z3
                        clear zf0 zf1 zf2 zf3
                        have F42_ := Aside0.mk (DiskF.far (DiskF.far (DiskF.far (DiskF.far F36_.out (p := ⟨b6, 0, none⟩) (fun k_ hk_ => by have := HN.out; dsimp only at hk_ ⊢; omega) (.slice P0 d.s.length p0)) (p := ⟨b6, 1, none⟩) (fun k_ hk_ => by have := HN.out; dsimp only at hk_ ⊢; omega) (.slice Q0 d.p.length q0)) (p := ⟨b6, 2, none⟩) (fun k_ hk_ => by have := HN.out; dsimp only at hk_ ⊢; omega) (.int .i64 d.left)) (p := ⟨b6, 3, none⟩) (fun k_ hk_ => by have := HN.out; dsimp only at hk_ ⊢; omega) (.bool d.st))
                        have F43_ := Aside0.mk (Kd.F_far (Kd.F_far (Kd.F_far (Kd.F_far F37_.out (p := ⟨b6, 0, none⟩) (fun k_ hk_ => by have := HN.out; dsimp only at hk_ ⊢; omega) (.slice P0 d.s.length p0)) (p := ⟨b6, 1, none⟩) (fun k_ hk_ => by have := HN.out; dsimp only at hk_ ⊢; omega) (.slice Q0 d.p.length q0)) (p := ⟨b6, 2, none⟩) (fun k_ hk_ => by have := HN.out; dsimp only at hk_ ⊢; omega) (.int .i64 d.left)) (p := ⟨b6, 3, none⟩) (fun k_ hk_ => by have := HN.out; dsimp only at hk_ ⊢; omega) (.bool d.st))
                        have F44_ := Aside0.mk (Below.setCell (p := ⟨b6, 3, none⟩) (Below.setCell (p := ⟨b6, 2, none⟩) (Below.setCell (p := ⟨b6, 1, none⟩) (Below.setCell (p := ⟨b6, 0, none⟩) F38_.out (Nat.le_of_lt HN.out.2.1) (.slice P0 d.s.length p0)) (Nat.le_of_lt HN.out.2.1) (.slice Q0 d.p.length q0)) (Nat.le_of_lt HN.out.2.1) (.int .i64 d.left)) (Nat.le_of_lt HN.out.2.1) (.bool d.st))
                        have F45_ := Aside0.mk (blk_far (blk_far (blk_far (blk_far F39_.out (p := ⟨b6, 0, none⟩) (by have := HN.out; simp; omega) (.slice P0 d.s.length p0)) (p := ⟨b6, 1, none⟩) (by have := HN.out; simp; omega) (.slice Q0 d.p.length q0)) (p := ⟨b6, 2, none⟩) (by have := HN.out; simp; omega) (.int .i64 d.left)) (p := ⟨b6, 3, none⟩) (by have := HN.out; simp; omega) (.bool d.st))
                        have F46_ := Aside0.mk (blk_far (blk_far (blk_far (blk_far F40_.out (p := ⟨b6, 0, none⟩) (by have := HN.out; simp; omega) (.slice P0 d.s.length p0)) (p := ⟨b6, 1, none⟩) (by have := HN.out; simp; omega) (.slice Q0 d.p.length q0)) (p := ⟨b6, 2, none⟩) (by have := HN.out; simp; omega) (.int .i64 d.left)) (p := ⟨b6, 3, none⟩) (by have := HN.out; simp; omega) (.bool d.st))
                        have F47_ := Aside0.mk (show ((((w7.setCell ⟨b6, 0, none⟩ (.slice P0 d.s.length p0)).setCell ⟨b6, 1, none⟩ (.slice Q0 d.p.length q0)).setCell ⟨b6, 2, none⟩ (.int .i64 d.left)).setCell ⟨b6, 3, none⟩ (.bool d.st)).heap[b6]? = some (.cells #[.slice P0 d.s.length p0, .slice Q0 d.p.length q0, .int .i64 d.left, .bool d.st] 25 (0, 0)) from (blk_set (blk_set (blk_set (blk_set F41_.out 0 (.slice P0 d.s.length p0)) 1 (.slice Q0 d.p.length q0)) 2 (.int .i64 d.left)) 3 (.bool d.st)))
                        clear F36_ F37_ F38_ F39_ F40_ F41_
                        generalize ((((w7.setCell ⟨b6, 0, none⟩ (.slice P0 d.s.length p0)).setCell ⟨b6, 1, none⟩ (.slice Q0 d.p.length q0)).setCell ⟨b6, 2, none⟩ (.int .i64 d.left)).setCell ⟨b6, 3, none⟩ (.bool d.st)) = w8 at *
                        refine done_ (by kernel_rfl) ?_
                        clear hle5 hle6 hHeld
                        go_upto_block 0 with (fail)
                        go_cut [7] from 8 (fun v7 wx => ∃ (X : Dk) (E : Int) (P5 : Option Addr) (p5 : Nat) (Q5 : Option Addr) (q5 : Nat), v7 = .int .i64 E ∧ Aside0 ((X, E) = syncD (togY d l l.length)) ∧ Aside0 (Below w.heap.size w wx) ∧ Aside0 (wx.heap[w.heap.size]? = some (.cells #[.slice P0 d.s.length p0, .slice Q0 d.p.length q0, .int .i64 d.left, .bool d.st] 25 (0, 0))) ∧ Aside0 (DiskF wx (fun k => k < w.heap.size) (.agg #[.slice P0 d.s.length p0, .slice Q0 d.p.length q0, .int .i64 d.left, .bool d.st]) d) ∧ Aside0 (Kd.F k57 wx (fun k => k < w.heap.size) A1 l.length l) ∧ Aside0 (wx.heap[b5]? = some (.cells #[.slice P5 X.s.length p5, .slice Q5 X.p.length q5, .int .i64 X.left, .bool X.st] 25 (0, 0))) ∧ Aside0 (DiskF wx (fun k => k ≠ b5 ∧ k ≠ b6) (.agg #[.slice P5 X.s.length p5, .slice Q5 X.p.length q5, .int .i64 X.left, .bool X.st]) X) ∧ Aside0 (wx.heap[b6]? = some (.cells #[.slice P0 d.s.length p0, .slice Q0 d.p.length q0, .int .i64 d.left, .bool d.st] 25 (0, 0))))
                        case first =>
                          go_wp2_with (fail)
                          go_loopg [7, 8] l.length (fun kq v7 v8 w' => ∃ (i : Nat) (X : Dk) (E : Int) (P5 : Option Addr) (p5 : Nat) (Q5 : Option Addr) (q5 : Nat), v8 = .int .i64 i ∧ v7 = .int .i64 E ∧ Aside0 (i ≤ l.length ∧ kq + i = l.length ∧ (d.left < 0 ∨ (i : Int) ≤ d.left + 1)) ∧ Aside0 (togX d l i = (X, E)) ∧ Aside0 (Below w.heap.size w w') ∧ Aside0 (w'.heap[w.heap.size]? = some (.cells #[.slice P0 d.s.length p0, .slice Q0 d.p.length q0, .int .i64 d.left, .bool d.st] 25 (0, 0))) ∧ Aside0 (DiskF w' (fun k => k < w.heap.size) (.agg #[.slice P0 d.s.length p0, .slice Q0 d.p.length q0, .int .i64 d.left, .bool d.st]) d) ∧ Aside0 (Kd.F k57 w' (fun k => k < w.heap.size) A1 l.length l) ∧ Aside0 (w'.heap[b5]? = some (.cells #[.slice P5 X.s.length p5, .slice Q5 X.p.length q5, .int .i64 X.left, .bool X.st] 25 (0, 0))) ∧ Aside0 (DiskF w' (fun k => k ≠ b5 ∧ k ≠ b6) (.agg #[.slice P5 X.s.length p5, .slice Q5 X.p.length q5, .int .i64 X.left, .bool X.st]) X) ∧ Aside0 (w'.heap[b6]? = some (.cells #[.slice P0 d.s.length p0, .slice Q0 d.p.length q0, .int .i64 d.left, .bool d.st] 25 (0, 0))))
                          case atStart => exact ⟨0, d, 0, P0, p0, Q0, q0, rfl, rfl, ⟨by have := HT.out.lf0; omega⟩, ⟨rfl⟩, ⟨F44_.out⟩, ⟨F45_.out⟩, ⟨F42_.out⟩, ⟨F43_.out⟩, ⟨F46_.out⟩, ⟨DiskF.mono F42_.out (fun k hk => by have := HN.out; (try dsimp only at hk ⊢); omega)⟩, ⟨F47_.out⟩⟩
                          clear F44_ F45_ F42_ F43_ F46_ F47_
                          obtain ⟨i, X, E, P5, p5, Q5, q5, rfl, rfl, HI, HX, GB, Gb2, Gd, Gl, Gb5, Gx, Gb6⟩ := hrel
                          by_cases hgo : i < l.length ∧ togOk d i
                          · skip
                            obtain ⟨X1, Z, X2, E2, hx1, hxl, hz, hx2, hx3⟩ := tog_round HT.out i hgo.1 hgo.2
                            obtain ⟨rfl, rfl⟩ := Prod.mk.inj (HX.out.symm.trans hx1)
                            have HZ := Aside0.mk hz
                            have HX2 := Aside0.mk hx2
                            have HX3 := Aside0.mk hx3
                            have HOK := Aside0.mk hgo.2
                            have hi := hgo.1
                            clear hx1 hxl hz hx2 hx3 hgo
                            have hi0 : decide (i < l.length) = true := decide_eq_true hi
                            obtain ⟨ad, rfl, ha0, ha1, ha2⟩ := at_T57 (Kd.F_now Gl.out) (i : Int) (by omega) (by omega)
                            rw [show ((i : Int)).toNat = i by omega, show rd_T57 l (i : Int) = l.getD i z57 from by unfold rd_T57; rw [show ((i : Int)).toNat = i by omega]] at ha0 ha1 ha2
                            have hbx : 0 ≤ (l.getD i z57).f1 ∧ (l.getD i z57).f1 < 256 := by have h_ := HBY.out _ (List.getElem_mem hi); rwa [show l.getD i z57 = l[i] from by simp [List.getD_eq_getElem?_getD, List.getElem?_eq_getElem hi]]
                            clear ha0
                            generalize hxe : l.getD i z57 = x at *
                            clear hxe
                            have HBX := Aside0.mk hbx
                            have y0 := (blk_cell Gb2.out 0).trans rfl
                            have y1 := (blk_cell Gb2.out 1).trans rfl
                            have y2 := (blk_cell Gb2.out 2).trans rfl
                            have y3 := (blk_cell Gb2.out 3).trans rfl
                            have hn0 := HT.out.n0
                            have hn1 := HT.out.n1
                            obtain ⟨hb0, hb1⟩ := hbx
                            have hmod : x.f1.tmod (d.s.length : Int) = x.f1 % (d.s.length : Int) := Int.tmod_eq_emod_of_nonneg hb0
                            have hme0 : 0 ≤ x.f1 % (d.s.length : Int) := Int.emod_nonneg _ (by omega)
                            have hme1 : x.f1 % (d.s.length : Int) < (d.s.length : Int) := Int.emod_lt_of_pos _ (by omega)
                            have hmw : wrap64 (x.f1 % (d.s.length : Int)) = x.f1 % (d.s.length : Int) := by unfold wrap64; omega
                            have hmz : ((d.s.length : Int) == 0) = false := beq_eq_false_iff_ne.mpr (by omega)
                            go_upto_region 10 with (fail)
                            go_quiet (fail)
                            have F48_ := Aside0.mk ha2
                            clear ha1 ha2 y0 y1 y2 y3 hmod hme0 hme1 hmw hmz hn0 hn1 hb0 hb1
                            have F49_ := Aside0.mk (below_step GB.out (pw_below_drewN (Below.refl _ _) nq))
                            have F50_ := Aside0.mk (blk_below Gb2.out (pw_below_drewN (Below.refl _ _) nq))
                            have F51_ := Aside0.mk (DiskF.below Gd.out (pw_below_drewN (Below.refl _ _) nq))
                            have F52_ := Aside0.mk (Kd.F_below Gl.out (pw_below_drewN (Below.refl _ _) nq))
                            have F53_ := Aside0.mk (blk_below Gb5.out (pw_below_drewN (Below.refl _ _) nq))
                            have F54_ := Aside0.mk (DiskF.below Gx.out (pw_below_drewN (Below.refl _ _) nq))
                            have F55_ := Aside0.mk (blk_below Gb6.out (pw_below_drewN (Below.refl _ _) nq))
                            have F56_ := Aside0.mk ((Below.cell (pw_below_drewN (Below.refl _ _) nq) (World.block_lt_of_cell? _ _ F48_.out)).trans F48_.out)
                            clear GB Gb2 Gd Gl Gb5 Gx Gb6 F48_
                            generalize wr.drewN nq = w9 at *
                            go_upto_region 11 with (fail)
                            refine start_ (n := 15) (S := fun w' => Below w9.drew.heap.size w9.drew w') (ds := []) #[false, false, false, false, false, false, false, false, false, false, false, false, false, false, false] (by kernel_rfl) rfl rfl (Below.refl _ _) (fun hHeld => ?_)
                            have F57_ := Aside0.mk (below_drew1 F49_.out)
                            have F58_ := Aside0.mk (blk_drew F50_.out)
                            have F59_ := Aside0.mk (DiskF.below F51_.out (below_drew1 (Below.refl _ _)))
                            have F60_ := Aside0.mk (Kd.F_drew F52_.out)
                            have F61_ := Aside0.mk (blk_drew F53_.out)
                            have F62_ := Aside0.mk (DiskF.below F54_.out (below_drew1 (Below.refl _ _)))
                            have F63_ := Aside0.mk (blk_drew F55_.out)
                            have F64_ := Aside0.mk ((Below.cell (below_drew1 (Below.refl _ _)) (World.block_lt_of_cell? _ _ F56_.out)).trans F56_.out)
                            clear F49_ F50_ F51_ F52_ F53_ F54_ F55_ F56_
                            generalize w9.drew = w10 at *
                            have hold_b5 := F61_.out
                            have hold_b6 := F63_.out
                            have hold_e2 := F64_.out
                            have hold_x := F62_.out
                            refine take_ (i := 0) (N := some 70) (v := ?_) (a' := ?_) #[true, false, false, false, false, false, false, false, false, false, false, false, false, false, false] rfl rfl (by kernel_rfl) (fun _ _ _ h => h) (Or.inl ⟨by rfl, ?_⟩) hHeld ?_ ?_
                            rotate_left
                            · rintro w' s0
                              have hz0 := blk_below hold_b5 s0
                              have yy00 := (blk_cell hz0 0).trans rfl
                              have yy01 := (blk_cell hz0 1).trans rfl
                              have yy02 := (blk_cell hz0 2).trans rfl
                              have yy03 := (blk_cell hz0 3).trans rfl
                              go_simp
                              with_reducible rfl
                            rotate_left
                            · simp only [Act.put, List.setIfInBounds_toArray, List.set_cons_zero, List.set_cons_succ, i64_w, i32_w]
                              rfl
                            refine pure_ (i := 1) (N := some 71) (v := ?_) (a' := ?_) #[true, true, false, false, false, false, false, false, false, false, false, false, false, false, false] rfl rfl (by kernel_rfl) (fun _ _ _ h => h) (Or.inl ⟨by rfl, ?_⟩) ?_ ?_
                            rotate_left
                            · intro w'
                              go_simp
                              with_reducible rfl
                            rotate_left
                            · simp only [Act.put, List.setIfInBounds_toArray, List.set_cons_zero, List.set_cons_succ, i64_w, i32_w]
                              rfl
                            refine pure_ (i := 2) (N := some 72) (v := ?_) (a' := ?_) #[true, true, true, false, false, false, false, false, false, false, false, false, false, false, false] rfl rfl (by kernel_rfl) (fun _ _ _ h => h) (Or.inl ⟨by rfl, ?_⟩) ?_ ?_
                            rotate_left
                            · intro w'
                              go_simp
                              with_reducible rfl
                            rotate_left
                            · simp only [Act.put, List.setIfInBounds_toArray, List.set_cons_zero, List.set_cons_succ, i64_w, i32_w]
                              rfl
                            refine pure_ (i := 3) (N := some 73) (v := ?_) (a' := ?_) #[true, true, true, true, false, false, false, false, false, false, false, false, false, false, false] rfl rfl (by kernel_rfl) (fun _ _ _ h => h) (Or.inl ⟨by rfl, ?_⟩) ?_ ?_
                            rotate_left
                            · intro w'
                              go_simp
                              with_reducible rfl
                            rotate_left
                            · simp only [Act.put, List.setIfInBounds_toArray, List.set_cons_zero, List.set_cons_succ, i64_w, i32_w]
                              rfl
                            refine pure_ (i := 4) (N := some 74) (v := ?_) (a' := ?_) #[true, true, true, true, true, false, false, false, false, false, false, false, false, false, false] rfl rfl (by kernel_rfl) (fun _ _ _ h => h) (Or.inl ⟨by rfl, ?_⟩) ?_ ?_
                            rotate_left
                            · intro w'
                              go_simp
                              with_reducible rfl
                            rotate_left
                            · simp only [Act.put, List.setIfInBounds_toArray, List.set_cons_zero, List.set_cons_succ, i64_w, i32_w]
                              rfl
                            refine pure_ (i := 5) (N := some 75) (v := ?_) (a' := ?_) #[true, true, true, true, true, true, false, false, false, false, false, false, false, false, false] rfl rfl (by kernel_rfl) (fun _ _ _ h => h) (Or.inl ⟨by rfl, ?_⟩) ?_ ?_
                            rotate_left
                            · intro w'
                              go_simp
                              with_reducible rfl
                            rotate_left
                            · simp only [Act.put, List.setIfInBounds_toArray, List.set_cons_zero, List.set_cons_succ, i64_w, i32_w]
                              rfl
                            refine take_ (i := 6) (N := some 76) (v := ?_) (a' := ?_) #[true, true, true, true, true, true, true, false, false, false, false, false, false, false, false] rfl rfl (by kernel_rfl) (fun _ _ _ h => h) (Or.inl ⟨by rfl, ?_⟩) hHeld ?_ ?_
                            rotate_left
                            · rintro w' s0
                              have q0 := (Below.cell s0 (World.block_lt_of_cell? _ _ hold_e2)).trans hold_e2
                              go_simp
                              with_reducible rfl
                            rotate_left
                            · simp only [Act.put, List.setIfInBounds_toArray, List.set_cons_zero, List.set_cons_succ, i64_w, i32_w]
                              rfl
                            have hltA := Aside0.mk (And.intro (blk_lt hold_b5) (blk_lt hold_b6))
                            refine join_ (σ := Value × (Option Addr × Nat × Option Addr × Nat) × Nat) 2 #[true, true, true, true, true, true, true, true, true, true, true, true, true, false, false] (fun s_ => [(77, s_.1), (78, .tuple #[(.agg #[.slice s_.2.1.1 Z.s.length s_.2.1.2.1, .slice s_.2.1.2.2.1 Z.p.length s_.2.1.2.2.2, .int .i64 Z.left, .bool Z.st]), .int .i64 0]), (69, .tuple #[(.agg #[.slice s_.2.1.1 Z.s.length s_.2.1.2.1, .slice s_.2.1.2.2.1 Z.p.length s_.2.1.2.2.2, .int .i64 Z.left, .bool Z.st]), .int .i64 0]), (79, (.agg #[.slice s_.2.1.1 Z.s.length s_.2.1.2.1, .slice s_.2.1.2.2.1 Z.p.length s_.2.1.2.2.2, .int .i64 Z.left, .bool Z.st])), (80, .int .i64 0), (10, .pointer (some ⟨s_.2.2, 0, none⟩))]) (fun s_ w' => Below w10.heap.size w10 w' ∧ DiskF w' (fun k => (k ≠ b5 ∧ k ≠ b6) ∧ k ≠ s_.2.2) (.agg #[.slice s_.2.1.1 Z.s.length s_.2.1.2.1, .slice s_.2.1.2.2.1 Z.p.length s_.2.1.2.2.2, .int .i64 Z.left, .bool Z.st]) Z ∧ w'.heap[s_.2.2]? = some (.cells #[.slice none 0 0, .slice none 0 0, .int .i64 0, .bool false] 25 (0, 0)) ∧ w10.heap.size ≤ s_.2.2) ?_ ?_
                            rotate_left
                            · intro hCont
                              refine two_ (i := 7) (j := 12) (Ni := some 77) (Nj := some 10) #[true, true, true, true, true, true, true, true, false, false, false, false, false, false, false] #[true, true, true, true, true, true, true, false, false, false, false, false, true, false, false] rfl rfl rfl rfl (by kernel_rfl) (by decide) (by decide) (fun K hK => ?_) (fun K hK => ?_)
                              · skip
                                refine value_ (w1 := ?_) (v := ?_) (by rfl) rfl ?_ ?_
                                rotate_left 2
                                · go_simp
                                  constructor
                                  · rfl
                                  · rfl
                                refine hK.out _ _ (below_alloc hHeld _) (fun hHeld => ?_)
                                clear hK K
                                refine norm_ (a' := ?_) ?_ ?_
                                rotate_left
                                · show Act.put _ (some 77) _ = _
                                  simp only [Act.put, List.setIfInBounds_toArray, List.set_cons_zero, List.set_cons_succ, i64_w, i32_w]
                                  rfl
                                refine two_ (i := 8) (j := 12) (Ni := some 78) (Nj := some 10) #[true, true, true, true, true, true, true, true, true, false, false, false, false, false, false] #[true, true, true, true, true, true, true, true, false, false, false, false, true, false, false] rfl rfl rfl rfl (by kernel_rfl) (by decide) (by decide) (fun K hK => ?_) (fun K hK => ?_)
                                · skip
                                  refine goes_ Try.func26 (by kernel_rfl) rfl #[(.agg #[.slice P5 X.s.length p5, .slice Q5 X.p.length q5, .int .i64 X.left, .bool X.st]), .int .i64 (x.f1 % (d.s.length : Int)), (.slice (some ⟨w10.heap.size, 0, none⟩) 1 1)] (by rfl) rfl rfl (by (try simp only [List.map_toArray, List.map_cons, List.map_nil]); first | done | rfl) ?_
                                  refine ((writeF_says (fun k => (k ≠ b5 ∧ k ≠ b6) ∧ k < w10.heap.size) _ _ X (x.f1 % (d.s.length : Int)) [x.f2] _ (DiskF.below (DiskF.bound hold_x) (below_alloc (Below.refl _ _) (.cells #[.int .u8 x.f2] 5))) ⟨_, _, rfl, Nat.le_refl _, bytes_C0 (l := [x.f2]) (blk_new w10 (.cells #[.int .u8 x.f2] 5)) (by simp)⟩).mono (fun e w' h => DEF.of h HZ.out)).mono ?_
                                  rintro e w_c ⟨⟨P_c, p_c, Q_c, q_c, rfl, hd⟩, hb⟩
                                  refine ⟨_, rfl, ?_⟩
                                  refine hK.out _ _ (below_step hHeld hb) (fun hHeld => ?_)
                                  clear hK K
                                  refine norm_ (a' := ?_) ?_ ?_
                                  rotate_left
                                  · show Act.put _ (some 78) _ = _
                                    simp only [Act.put, List.setIfInBounds_toArray, List.set_cons_zero, List.set_cons_succ, i64_w, i32_w]
                                    rfl
                                  refine pure_ (i := 9) (N := some 69) (v := ?_) (a' := ?_) #[true, true, true, true, true, true, true, true, true, true, false, false, false, false, false] rfl rfl (by kernel_rfl) (fun _ _ _ h => h) (Or.inl ⟨by rfl, ?_⟩) ?_ ?_
                                  rotate_left
                                  · intro w'
                                    go_simp
                                    with_reducible rfl
                                  rotate_left
                                  · simp only [Act.put, List.setIfInBounds_toArray, List.set_cons_zero, List.set_cons_succ, i64_w, i32_w]
                                    rfl
                                  refine pure_ (i := 10) (N := some 79) (v := ?_) (a' := ?_) #[true, true, true, true, true, true, true, true, true, true, true, false, false, false, false] rfl rfl (by kernel_rfl) (fun _ _ _ h => h) (Or.inl ⟨by rfl, ?_⟩) ?_ ?_
                                  rotate_left
                                  · intro w'
                                    go_simp
                                    with_reducible rfl
                                  rotate_left
                                  · simp only [Act.put, List.setIfInBounds_toArray, List.set_cons_zero, List.set_cons_succ, i64_w, i32_w]
                                    rfl
                                  refine pure_ (i := 11) (N := some 80) (v := ?_) (a' := ?_) #[true, true, true, true, true, true, true, true, true, true, true, true, false, false, false] rfl rfl (by kernel_rfl) (fun _ _ _ h => h) (Or.inl ⟨by rfl, ?_⟩) ?_ ?_
                                  rotate_left
                                  · intro w'
                                    go_simp
                                    with_reducible rfl
                                  rotate_left
                                  · simp only [Act.put, List.setIfInBounds_toArray, List.set_cons_zero, List.set_cons_succ, i64_w, i32_w]
                                    rfl
                                  refine one_ (i := 12) (N := some 10) #[true, true, true, true, true, true, true, true, true, true, true, true, true, false, false] rfl rfl (by kernel_rfl) (by decide) (fun K hK => ?_)
                                  refine value_ (w1 := ?_) (v := ?_) (by rfl) rfl ?_ ?_
                                  rotate_left 2
                                  · go_simp
                                    constructor
                                    · rfl
                                    · rfl
                                  refine hK.out _ _ (below_alloc hHeld _) (fun hHeld => ?_)
                                  clear hK K
                                  refine norm_ (a' := ?_) ?_ ?_
                                  rotate_left
                                  · show Act.put _ (some 10) _ = _
                                    simp only [Act.put, List.setIfInBounds_toArray, List.set_cons_zero, List.set_cons_succ, i64_w, i32_w]
                                    rfl
                                  exact norm_ (by simp only [putAll, Act.put, List.setIfInBounds_toArray, List.set_cons_zero, List.set_cons_succ]) (hCont (.slice (some ⟨w10.heap.size, 0, none⟩) 1 1, (P_c, p_c, Q_c, q_c), w_c.heap.size) _ ⟨hHeld, DiskF.mono (DiskF.below (DiskF.bound hd) (below_alloc (Below.refl _ _) (.cells #[.slice none 0 0, .slice none 0 0, .int .i64 0, .bool false] 25))) (fun k hk => by have := hltA.out; (try simp only [World.size_alloc] at hk); (try dsimp only at hk); (try dsimp only); omega), blk_new w_c (.cells #[.slice none 0 0, .slice none 0 0, .int .i64 0, .bool false] 25), (Nat.le_trans (by simp) hb.size)⟩)
                                · skip
                                  refine value_ (w1 := ?_) (v := ?_) (by rfl) rfl ?_ ?_
                                  rotate_left 2
                                  · go_simp
                                    constructor
                                    · rfl
                                    · rfl
                                  refine hK.out _ _ (below_alloc hHeld _) (fun hHeld => ?_)
                                  clear hK K
                                  refine norm_ (a' := ?_) ?_ ?_
                                  rotate_left
                                  · show Act.put _ (some 10) _ = _
                                    simp only [Act.put, List.setIfInBounds_toArray, List.set_cons_zero, List.set_cons_succ, i64_w, i32_w]
                                    rfl
                                  refine one_ (i := 8) (N := some 78) #[true, true, true, true, true, true, true, true, true, false, false, false, true, false, false] rfl rfl (by kernel_rfl) (by decide) (fun K hK => ?_)
                                  refine goes_ Try.func26 (by kernel_rfl) rfl #[(.agg #[.slice P5 X.s.length p5, .slice Q5 X.p.length q5, .int .i64 X.left, .bool X.st]), .int .i64 (x.f1 % (d.s.length : Int)), (.slice (some ⟨w10.heap.size, 0, none⟩) 1 1)] (by rfl) rfl rfl (by (try simp only [List.map_toArray, List.map_cons, List.map_nil]); first | done | rfl) ?_
                                  refine ((writeF_says (fun k => (k ≠ b5 ∧ k ≠ b6) ∧ k < w10.heap.size) _ _ X (x.f1 % (d.s.length : Int)) [x.f2] _ (DiskF.below (DiskF.bound hold_x) (below_alloc (below_alloc (Below.refl _ _) (.cells #[.int .u8 x.f2] 5)) (.cells #[.slice none 0 0, .slice none 0 0, .int .i64 0, .bool false] 25))) ⟨_, _, rfl, Nat.le_refl _, bytes_C0 (l := [x.f2]) (blk_alloc (blk_new w10 (.cells #[.int .u8 x.f2] 5)) (.cells #[.slice none 0 0, .slice none 0 0, .int .i64 0, .bool false] 25)) (by simp)⟩).mono (fun e w' h => DEF.of h HZ.out)).mono ?_
                                  rintro e w_c ⟨⟨P_c, p_c, Q_c, q_c, rfl, hd⟩, hb⟩
                                  refine ⟨_, rfl, ?_⟩
                                  refine hK.out _ _ (below_step hHeld hb) (fun hHeld => ?_)
                                  clear hK K
                                  refine norm_ (a' := ?_) ?_ ?_
                                  rotate_left
                                  · show Act.put _ (some 78) _ = _
                                    simp only [Act.put, List.setIfInBounds_toArray, List.set_cons_zero, List.set_cons_succ, i64_w, i32_w]
                                    rfl
                                  refine pure_ (i := 9) (N := some 69) (v := ?_) (a' := ?_) #[true, true, true, true, true, true, true, true, true, true, false, false, true, false, false] rfl rfl (by kernel_rfl) (fun _ _ _ h => h) (Or.inl ⟨by rfl, ?_⟩) ?_ ?_
                                  rotate_left
                                  · intro w'
                                    go_simp
                                    with_reducible rfl
                                  rotate_left
                                  · simp only [Act.put, List.setIfInBounds_toArray, List.set_cons_zero, List.set_cons_succ, i64_w, i32_w]
                                    rfl
                                  refine pure_ (i := 10) (N := some 79) (v := ?_) (a' := ?_) #[true, true, true, true, true, true, true, true, true, true, true, false, true, false, false] rfl rfl (by kernel_rfl) (fun _ _ _ h => h) (Or.inl ⟨by rfl, ?_⟩) ?_ ?_
                                  rotate_left
                                  · intro w'
                                    go_simp
                                    with_reducible rfl
                                  rotate_left
                                  · simp only [Act.put, List.setIfInBounds_toArray, List.set_cons_zero, List.set_cons_succ, i64_w, i32_w]
                                    rfl
                                  refine pure_ (i := 11) (N := some 80) (v := ?_) (a' := ?_) #[true, true, true, true, true, true, true, true, true, true, true, true, true, false, false] rfl rfl (by kernel_rfl) (fun _ _ _ h => h) (Or.inl ⟨by rfl, ?_⟩) ?_ ?_
                                  rotate_left
                                  · intro w'
                                    go_simp
                                    with_reducible rfl
                                  rotate_left
                                  · simp only [Act.put, List.setIfInBounds_toArray, List.set_cons_zero, List.set_cons_succ, i64_w, i32_w]
                                    rfl
                                  exact norm_ (by simp only [putAll, Act.put, List.setIfInBounds_toArray, List.set_cons_zero, List.set_cons_succ]) (hCont (.slice (some ⟨w10.heap.size, 0, none⟩) 1 1, (P_c, p_c, Q_c, q_c), w10.heap.size + 1) _ ⟨hHeld, DiskF.mono hd (fun k hk => by have := hltA.out; (try simp only [World.size_alloc] at hk); (try dsimp only at hk); (try dsimp only); omega), (by have h_ := blk_below (blk_new (w10.alloc (.cells #[.int .u8 x.f2] 5)) (.cells #[.slice none 0 0, .slice none 0 0, .int .i64 0, .bool false] 25)) hb; rw [World.size_alloc] at h_; exact h_), (Nat.le_succ _)⟩)
                              · skip
                                refine value_ (w1 := ?_) (v := ?_) (by rfl) rfl ?_ ?_
                                rotate_left 2
                                · go_simp
                                  constructor
                                  · rfl
                                  · rfl
                                refine hK.out _ _ (below_alloc hHeld _) (fun hHeld => ?_)
                                clear hK K
                                refine norm_ (a' := ?_) ?_ ?_
                                rotate_left
                                · show Act.put _ (some 10) _ = _
                                  simp only [Act.put, List.setIfInBounds_toArray, List.set_cons_zero, List.set_cons_succ, i64_w, i32_w]
                                  rfl
                                refine one_ (i := 7) (N := some 77) #[true, true, true, true, true, true, true, true, false, false, false, false, true, false, false] rfl rfl (by kernel_rfl) (by decide) (fun K hK => ?_)
                                refine value_ (w1 := ?_) (v := ?_) (by rfl) rfl ?_ ?_
                                rotate_left 2
                                · go_simp
                                  constructor
                                  · rfl
                                  · rfl
                                refine hK.out _ _ (below_alloc hHeld _) (fun hHeld => ?_)
                                clear hK K
                                refine norm_ (a' := ?_) ?_ ?_
                                rotate_left
                                · show Act.put _ (some 77) _ = _
                                  simp only [Act.put, List.setIfInBounds_toArray, List.set_cons_zero, List.set_cons_succ, i64_w, i32_w]
                                  rfl
                                refine one_ (i := 8) (N := some 78) #[true, true, true, true, true, true, true, true, true, false, false, false, true, false, false] rfl rfl (by kernel_rfl) (by decide) (fun K hK => ?_)
                                refine goes_ Try.func26 (by kernel_rfl) rfl #[(.agg #[.slice P5 X.s.length p5, .slice Q5 X.p.length q5, .int .i64 X.left, .bool X.st]), .int .i64 (x.f1 % (d.s.length : Int)), (.slice (some ⟨w10.heap.size + 1, 0, none⟩) 1 1)] (by rfl) rfl rfl (by (try simp only [List.map_toArray, List.map_cons, List.map_nil]); first | done | rfl) ?_
                                refine ((writeF_says (fun k => (k ≠ b5 ∧ k ≠ b6) ∧ k < w10.heap.size) _ _ X (x.f1 % (d.s.length : Int)) [x.f2] _ (DiskF.below (DiskF.bound hold_x) (below_alloc (below_alloc (Below.refl _ _) (.cells #[.slice none 0 0, .slice none 0 0, .int .i64 0, .bool false] 25)) (.cells #[.int .u8 x.f2] 5))) ⟨_, _, rfl, Nat.le_refl _, bytes_C0 (l := [x.f2]) (by have h_ := blk_new (w10.alloc (.cells #[.slice none 0 0, .slice none 0 0, .int .i64 0, .bool false] 25)) (.cells #[.int .u8 x.f2] 5); rw [World.size_alloc] at h_; exact h_) (by simp)⟩).mono (fun e w' h => DEF.of h HZ.out)).mono ?_
                                rintro e w_c ⟨⟨P_c, p_c, Q_c, q_c, rfl, hd⟩, hb⟩
                                refine ⟨_, rfl, ?_⟩
                                refine hK.out _ _ (below_step hHeld hb) (fun hHeld => ?_)
                                clear hK K
                                refine norm_ (a' := ?_) ?_ ?_
                                rotate_left
                                · show Act.put _ (some 78) _ = _
                                  simp only [Act.put, List.setIfInBounds_toArray, List.set_cons_zero, List.set_cons_succ, i64_w, i32_w]
                                  rfl
                                refine pure_ (i := 9) (N := some 69) (v := ?_) (a' := ?_) #[true, true, true, true, true, true, true, true, true, true, false, false, true, false, false] rfl rfl (by kernel_rfl) (fun _ _ _ h => h) (Or.inl ⟨by rfl, ?_⟩) ?_ ?_
                                rotate_left
                                · intro w'
                                  go_simp
                                  with_reducible rfl
                                rotate_left
                                · simp only [Act.put, List.setIfInBounds_toArray, List.set_cons_zero, List.set_cons_succ, i64_w, i32_w]
                                  rfl
                                refine pure_ (i := 10) (N := some 79) (v := ?_) (a' := ?_) #[true, true, true, true, true, true, true, true, true, true, true, false, true, false, false] rfl rfl (by kernel_rfl) (fun _ _ _ h => h) (Or.inl ⟨by rfl, ?_⟩) ?_ ?_
                                rotate_left
                                · intro w'
                                  go_simp
                                  with_reducible rfl
                                rotate_left
                                · simp only [Act.put, List.setIfInBounds_toArray, List.set_cons_zero, List.set_cons_succ, i64_w, i32_w]
                                  rfl
                                refine pure_ (i := 11) (N := some 80) (v := ?_) (a' := ?_) #[true, true, true, true, true, true, true, true, true, true, true, true, true, false, false] rfl rfl (by kernel_rfl) (fun _ _ _ h => h) (Or.inl ⟨by rfl, ?_⟩) ?_ ?_
                                rotate_left
                                · intro w'
                                  go_simp
                                  with_reducible rfl
                                rotate_left
                                · simp only [Act.put, List.setIfInBounds_toArray, List.set_cons_zero, List.set_cons_succ, i64_w, i32_w]
                                  rfl
                                exact norm_ (by simp only [putAll, Act.put, List.setIfInBounds_toArray, List.set_cons_zero, List.set_cons_succ]) (hCont (.slice (some ⟨w10.heap.size + 1, 0, none⟩) 1 1, (P_c, p_c, Q_c, q_c), w10.heap.size) _ ⟨hHeld, DiskF.mono hd (fun k hk => by have := hltA.out; (try simp only [World.size_alloc] at hk); (try dsimp only at hk); (try dsimp only); omega), (blk_below (blk_alloc (blk_new w10 (.cells #[.slice none 0 0, .slice none 0 0, .int .i64 0, .bool false] 25)) (.cells #[.int .u8 x.f2] 5)) hb), (Nat.le_refl _)⟩)
                            rintro ⟨v_l, ⟨P9, p9, Q9, q9⟩, b10⟩ w11 ⟨hHeld, ⟨hdz, hbz, hlez⟩⟩
                            dsimp only at *
                            refine norm_ (a' := ?_) ?_ ?_
                            rotate_left
                            · simp only [putAll, Act.put, List.setIfInBounds_toArray, List.set_cons_zero, List.set_cons_succ]
                              rfl
                            have F65_ := Aside0.mk (below_step F57_.out hHeld)
                            have F66_ := Aside0.mk (blk_below F58_.out hHeld)
                            have F67_ := Aside0.mk (DiskF.below F59_.out hHeld)
                            have F68_ := Aside0.mk (Kd.F_below F60_.out hHeld)
                            have F69_ := Aside0.mk (blk_below F61_.out hHeld)
                            have F70_ := Aside0.mk (DiskF.below F62_.out hHeld)
                            have F71_ := Aside0.mk (blk_below F63_.out hHeld)
                            have F72_ := Aside0.mk ((Below.cell hHeld (World.block_lt_of_cell? _ _ F64_.out)).trans F64_.out)
                            clear F57_ F58_ F59_ F60_ F61_ F62_ F63_ F64_
                            clear F70_ F72_
                            have F73_ := Aside0.mk (hdz)
                            have F74_ := Aside0.mk (hbz)
                            have HN10 := Aside0.mk (show w.heap.size < b10 ∧ b5 ≠ b10 ∧ b6 ≠ b10 from ⟨Nat.lt_of_lt_of_le (Nat.lt_trans HN.out.1 hltA.out.1) hlez, Nat.ne_of_lt (Nat.lt_of_lt_of_le hltA.out.1 hlez), Nat.ne_of_lt (Nat.lt_of_lt_of_le hltA.out.2 hlez)⟩)
                            replace hlez := Aside0.mk hlez
                            clear hdz hbz hltA hold_b5 hold_b6 hold_e2 hold_x
                            have z0 := (blk_cell F74_.out 0).trans rfl
                            have z1 := (blk_cell F74_.out 1).trans rfl
                            have z2 := (blk_cell F74_.out 2).trans rfl
                            have z3 := (blk_cell F74_.out 3).trans rfl
                            have zf0 := blk_frozen F74_.out 0
                            have zf1 := blk_frozen F74_.out 1
                            have zf2 := blk_frozen F74_.out 2
                            have zf3 := blk_frozen F74_.out 3
                            refine one_ (i := 13) (N := none) #[true, true, true, true, true, true, true, true, true, true, true, true, true, true, false] rfl rfl (by kernel_rfl) (by decide) (fun K hK => ?_)
                            refine skip_ (w1 := ?_) (by rfl) rfl ?_ ?_
                            rotate_left
                            · go_simp
                              rfl
                            refine hK.out _ _ (by refine Below.setCell ?_ hlez.out _; refine Below.setCell ?_ hlez.out _; refine Below.setCell ?_ hlez.out _; refine Below.setCell ?_ hlez.out _; exact hHeld) (fun hHeld => ?_)
                            clear hK K
                            clear z0 z1 z2 z3
                            clear zf0 zf1 zf2 zf3
                            have F75_ := Aside0.mk (Below.setCell (p := ⟨b10, 3, none⟩) (Below.setCell (p := ⟨b10, 2, none⟩) (Below.setCell (p := ⟨b10, 1, none⟩) (Below.setCell (p := ⟨b10, 0, none⟩) F65_.out (Nat.le_of_lt HN10.out.1) (.slice P9 Z.s.length p9)) (Nat.le_of_lt HN10.out.1) (.slice Q9 Z.p.length q9)) (Nat.le_of_lt HN10.out.1) (.int .i64 Z.left)) (Nat.le_of_lt HN10.out.1) (.bool Z.st))
                            have F76_ := Aside0.mk (blk_far (blk_far (blk_far (blk_far F66_.out (p := ⟨b10, 0, none⟩) (by have := HN10.out; simp; omega) (.slice P9 Z.s.length p9)) (p := ⟨b10, 1, none⟩) (by have := HN10.out; simp; omega) (.slice Q9 Z.p.length q9)) (p := ⟨b10, 2, none⟩) (by have := HN10.out; simp; omega) (.int .i64 Z.left)) (p := ⟨b10, 3, none⟩) (by have := HN10.out; simp; omega) (.bool Z.st))
                            have F77_ := Aside0.mk (DiskF.far (DiskF.far (DiskF.far (DiskF.far F67_.out (p := ⟨b10, 0, none⟩) (fun k_ hk_ => by have := HN10.out; dsimp only at hk_ ⊢; omega) (.slice P9 Z.s.length p9)) (p := ⟨b10, 1, none⟩) (fun k_ hk_ => by have := HN10.out; dsimp only at hk_ ⊢; omega) (.slice Q9 Z.p.length q9)) (p := ⟨b10, 2, none⟩) (fun k_ hk_ => by have := HN10.out; dsimp only at hk_ ⊢; omega) (.int .i64 Z.left)) (p := ⟨b10, 3, none⟩) (fun k_ hk_ => by have := HN10.out; dsimp only at hk_ ⊢; omega) (.bool Z.st))
                            have F78_ := Aside0.mk (Kd.F_far (Kd.F_far (Kd.F_far (Kd.F_far F68_.out (p := ⟨b10, 0, none⟩) (fun k_ hk_ => by have := HN10.out; dsimp only at hk_ ⊢; omega) (.slice P9 Z.s.length p9)) (p := ⟨b10, 1, none⟩) (fun k_ hk_ => by have := HN10.out; dsimp only at hk_ ⊢; omega) (.slice Q9 Z.p.length q9)) (p := ⟨b10, 2, none⟩) (fun k_ hk_ => by have := HN10.out; dsimp only at hk_ ⊢; omega) (.int .i64 Z.left)) (p := ⟨b10, 3, none⟩) (fun k_ hk_ => by have := HN10.out; dsimp only at hk_ ⊢; omega) (.bool Z.st))
                            have F79_ := Aside0.mk (blk_far (blk_far (blk_far (blk_far F69_.out (p := ⟨b10, 0, none⟩) (by have := HN10.out; simp; omega) (.slice P9 Z.s.length p9)) (p := ⟨b10, 1, none⟩) (by have := HN10.out; simp; omega) (.slice Q9 Z.p.length q9)) (p := ⟨b10, 2, none⟩) (by have := HN10.out; simp; omega) (.int .i64 Z.left)) (p := ⟨b10, 3, none⟩) (by have := HN10.out; simp; omega) (.bool Z.st))
                            have F80_ := Aside0.mk (blk_far (blk_far (blk_far (blk_far F71_.out (p := ⟨b10, 0, none⟩) (by have := HN10.out; simp; omega) (.slice P9 Z.s.length p9)) (p := ⟨b10, 1, none⟩) (by have := HN10.out; simp; omega) (.slice Q9 Z.p.length q9)) (p := ⟨b10, 2, none⟩) (by have := HN10.out; simp; omega) (.int .i64 Z.left)) (p := ⟨b10, 3, none⟩) (by have := HN10.out; simp; omega) (.bool Z.st))
                            have F81_ := Aside0.mk (DiskF.far (DiskF.far (DiskF.far (DiskF.far F73_.out (p := ⟨b10, 0, none⟩) (fun k_ hk_ => by dsimp only at hk_ ⊢; omega) (.slice P9 Z.s.length p9)) (p := ⟨b10, 1, none⟩) (fun k_ hk_ => by dsimp only at hk_ ⊢; omega) (.slice Q9 Z.p.length q9)) (p := ⟨b10, 2, none⟩) (fun k_ hk_ => by dsimp only at hk_ ⊢; omega) (.int .i64 Z.left)) (p := ⟨b10, 3, none⟩) (fun k_ hk_ => by dsimp only at hk_ ⊢; omega) (.bool Z.st))
                            have F82_ := Aside0.mk (show ((((w11.setCell ⟨b10, 0, none⟩ (.slice P9 Z.s.length p9)).setCell ⟨b10, 1, none⟩ (.slice Q9 Z.p.length q9)).setCell ⟨b10, 2, none⟩ (.int .i64 Z.left)).setCell ⟨b10, 3, none⟩ (.bool Z.st)).heap[b10]? = some (.cells #[.slice P9 Z.s.length p9, .slice Q9 Z.p.length q9, .int .i64 Z.left, .bool Z.st] 25 (0, 0)) from (blk_set (blk_set (blk_set (blk_set F74_.out 0 (.slice P9 Z.s.length p9)) 1 (.slice Q9 Z.p.length q9)) 2 (.int .i64 Z.left)) 3 (.bool Z.st)))
                            clear F65_ F66_ F67_ F68_ F69_ F71_ F73_ F74_
                            generalize ((((w11.setCell ⟨b10, 0, none⟩ (.slice P9 Z.s.length p9)).setCell ⟨b10, 1, none⟩ (.slice Q9 Z.p.length q9)).setCell ⟨b10, 2, none⟩ (.int .i64 Z.left)).setCell ⟨b10, 3, none⟩ (.bool Z.st)) = w12 at *
                            refine pure_ (i := 14) (N := some 11) (v := ?_) (a' := ?_) #[true, true, true, true, true, true, true, true, true, true, true, true, true, true, true] rfl rfl (by kernel_rfl) (fun _ _ _ h => h) (Or.inl ⟨by rfl, ?_⟩) ?_ ?_
                            rotate_left
                            · intro w'
                              go_simp
                              with_reducible rfl
                            rotate_left
                            · simp only [Act.put, List.setIfInBounds_toArray, List.set_cons_zero, List.set_cons_succ, i64_w, i32_w]
                              rfl
                            refine done_ (by kernel_rfl) ?_
                            clear hlez hHeld
                            go_upto_region 14 with (fail)
                            have y0 := (blk_cell F82_.out 0).trans rfl
                            have y1 := (blk_cell F82_.out 1).trans rfl
                            have y2 := (blk_cell F82_.out 2).trans rfl
                            have y3 := (blk_cell F82_.out 3).trans rfl
                            have HLT := Aside0.mk (And.intro (blk_lt F79_.out) (blk_lt F80_.out))
                            go_upto_region 9 with (go_at_call 30; (refine ((syncF_says (fun k => (k ≠ b5 ∧ k ≠ b6) ∧ k ≠ b10) _ _ _ F81_.out).mono (fun e w' h => DEF.of h HX2.out)).mono ?_); rintro e w13 ⟨⟨P7, p7, Q7, q7, rfl, hd⟩, hb⟩; have F83_ := Aside0.mk (below_step F75_.out hb); have F84_ := Aside0.mk (blk_below F76_.out hb); have F85_ := Aside0.mk (DiskF.below F77_.out hb); have F86_ := Aside0.mk (Kd.F_below F78_.out hb); have F87_ := Aside0.mk (blk_below F79_.out hb); have F88_ := Aside0.mk (blk_below F80_.out hb); have F89_ := Aside0.mk (DiskF.below F81_.out hb); have F90_ := Aside0.mk (blk_below F82_.out hb); clear F75_ F76_ F77_ F78_ F79_ F80_ F81_ F82_; have F91_ := Aside0.mk (DiskF.mono (ok' := fun k => k ≠ b5 ∧ k ≠ b6) hd (fun k hk => by have := HLT.out; (try dsimp only at hk); (try dsimp only); omega)); clear hd hb y0 y1 y2 y3; have z0 := (blk_cell F87_.out 0).trans rfl; have z1 := (blk_cell F87_.out 1).trans rfl; have z2 := (blk_cell F87_.out 2).trans rfl; have z3 := (blk_cell F87_.out 3).trans rfl; have zf0 := blk_frozen F87_.out 0; have zf1 := blk_frozen F87_.out 1; have zf2 := blk_frozen F87_.out 2; have zf3 := blk_frozen F87_.out 3)
                            clear z0 z1 z2 z3
                            clear zf0 zf1 zf2 zf3
                            clear F89_ F90_
                            have F92_ := Aside0.mk (Below.setCell (p := ⟨b5, 3, none⟩) (Below.setCell (p := ⟨b5, 2, none⟩) (Below.setCell (p := ⟨b5, 1, none⟩) (Below.setCell (p := ⟨b5, 0, none⟩) F83_.out (Nat.le_of_lt HN.out.1) (.slice P7 X2.s.length p7)) (Nat.le_of_lt HN.out.1) (.slice Q7 X2.p.length q7)) (Nat.le_of_lt HN.out.1) (.int .i64 X2.left)) (Nat.le_of_lt HN.out.1) (.bool X2.st))
                            have F93_ := Aside0.mk (blk_far (blk_far (blk_far (blk_far F84_.out (p := ⟨b5, 0, none⟩) (by have := HN.out; simp; omega) (.slice P7 X2.s.length p7)) (p := ⟨b5, 1, none⟩) (by have := HN.out; simp; omega) (.slice Q7 X2.p.length q7)) (p := ⟨b5, 2, none⟩) (by have := HN.out; simp; omega) (.int .i64 X2.left)) (p := ⟨b5, 3, none⟩) (by have := HN.out; simp; omega) (.bool X2.st))
                            have F94_ := Aside0.mk (DiskF.far (DiskF.far (DiskF.far (DiskF.far F85_.out (p := ⟨b5, 0, none⟩) (fun k_ hk_ => by have := HN.out; dsimp only at hk_ ⊢; omega) (.slice P7 X2.s.length p7)) (p := ⟨b5, 1, none⟩) (fun k_ hk_ => by have := HN.out; dsimp only at hk_ ⊢; omega) (.slice Q7 X2.p.length q7)) (p := ⟨b5, 2, none⟩) (fun k_ hk_ => by have := HN.out; dsimp only at hk_ ⊢; omega) (.int .i64 X2.left)) (p := ⟨b5, 3, none⟩) (fun k_ hk_ => by have := HN.out; dsimp only at hk_ ⊢; omega) (.bool X2.st))
                            have F95_ := Aside0.mk (Kd.F_far (Kd.F_far (Kd.F_far (Kd.F_far F86_.out (p := ⟨b5, 0, none⟩) (fun k_ hk_ => by have := HN.out; dsimp only at hk_ ⊢; omega) (.slice P7 X2.s.length p7)) (p := ⟨b5, 1, none⟩) (fun k_ hk_ => by have := HN.out; dsimp only at hk_ ⊢; omega) (.slice Q7 X2.p.length q7)) (p := ⟨b5, 2, none⟩) (fun k_ hk_ => by have := HN.out; dsimp only at hk_ ⊢; omega) (.int .i64 X2.left)) (p := ⟨b5, 3, none⟩) (fun k_ hk_ => by have := HN.out; dsimp only at hk_ ⊢; omega) (.bool X2.st))
                            have F96_ := Aside0.mk (show ((((w13.setCell ⟨b5, 0, none⟩ (.slice P7 X2.s.length p7)).setCell ⟨b5, 1, none⟩ (.slice Q7 X2.p.length q7)).setCell ⟨b5, 2, none⟩ (.int .i64 X2.left)).setCell ⟨b5, 3, none⟩ (.bool X2.st)).heap[b5]? = some (.cells #[.slice P7 X2.s.length p7, .slice Q7 X2.p.length q7, .int .i64 X2.left, .bool X2.st] 25 (0, 0)) from (blk_set (blk_set (blk_set (blk_set F87_.out 0 (.slice P7 X2.s.length p7)) 1 (.slice Q7 X2.p.length q7)) 2 (.int .i64 X2.left)) 3 (.bool X2.st)))
                            have F97_ := Aside0.mk (blk_far (blk_far (blk_far (blk_far F88_.out (p := ⟨b5, 0, none⟩) (by have := HN.out; simp; omega) (.slice P7 X2.s.length p7)) (p := ⟨b5, 1, none⟩) (by have := HN.out; simp; omega) (.slice Q7 X2.p.length q7)) (p := ⟨b5, 2, none⟩) (by have := HN.out; simp; omega) (.int .i64 X2.left)) (p := ⟨b5, 3, none⟩) (by have := HN.out; simp; omega) (.bool X2.st))
                            have F98_ := Aside0.mk (DiskF.far (DiskF.far (DiskF.far (DiskF.far F91_.out (p := ⟨b5, 0, none⟩) (fun k_ hk_ => by dsimp only at hk_ ⊢; omega) (.slice P7 X2.s.length p7)) (p := ⟨b5, 1, none⟩) (fun k_ hk_ => by dsimp only at hk_ ⊢; omega) (.slice Q7 X2.p.length q7)) (p := ⟨b5, 2, none⟩) (fun k_ hk_ => by dsimp only at hk_ ⊢; omega) (.int .i64 X2.left)) (p := ⟨b5, 3, none⟩) (fun k_ hk_ => by dsimp only at hk_ ⊢; omega) (.bool X2.st))
                            clear F83_ F84_ F85_ F86_ F87_ F88_ F91_
                            generalize ((((w13.setCell ⟨b5, 0, none⟩ (.slice P7 X2.s.length p7)).setCell ⟨b5, 1, none⟩ (.slice Q7 X2.p.length q7)).setCell ⟨b5, 2, none⟩ (.int .i64 X2.left)).setCell ⟨b5, 3, none⟩ (.bool X2.st)) = w14 at *
                            have hw := Aside0.mk (show wrap64 ((i : Int) + 1) = ((i + 1 : Nat) : Int) by have := HLM.out; unfold wrap64; omega)
                            go_wp2
                            go_roundg (gk - 1)
                            case measure => have := HI.out; omega
                            case rel => exact ⟨i + 1, X2, E2, P7, p7, Q7, q7, by rw [hw.out], rfl, ⟨by have := HI.out; have h_ := HOK.out; unfold togOk at h_; omega⟩, HX3, ⟨F92_.out⟩, ⟨F93_.out⟩, ⟨F94_.out⟩, ⟨F95_.out⟩, ⟨F96_.out⟩, ⟨F98_.out⟩, ⟨F97_.out⟩⟩
                          · skip
                            have HG := Aside0.mk hgo
                            by_cases hi : i < l.length
                            · skip
                              have hi0 : decide (i < l.length) = true := decide_eq_true hi
                              have hE : E = 450 := by have h_ := tog_err HT.out i HI.out.1 HI.out.2.2 (fun ho => hgo ⟨hi, ho⟩); rw [HX.out] at h_; exact h_
                              subst hE
                              clear hgo
                              go_wp2_with fail
                              go_meet
                              exact ⟨X, _, P5, p5, Q5, q5, rfl, ⟨HX.out.symm.trans (tog_end HT.out i HI.out.1 HI.out.2.2 HG.out)⟩, ⟨GB.out⟩, ⟨Gb2.out⟩, ⟨Gd.out⟩, ⟨Gl.out⟩, ⟨Gb5.out⟩, ⟨Gx.out⟩, ⟨Gb6.out⟩⟩
                            · skip
                              have hi0 : decide (i < l.length) = false := decide_eq_false hi
                              clear hgo
                              go_wp2_with fail
                              go_meet
                              exact ⟨X, _, P5, p5, Q5, q5, rfl, ⟨HX.out.symm.trans (tog_end HT.out i HI.out.1 HI.out.2.2 HG.out)⟩, ⟨GB.out⟩, ⟨Gb2.out⟩, ⟨Gd.out⟩, ⟨Gl.out⟩, ⟨Gb5.out⟩, ⟨Gx.out⟩, ⟨Gb6.out⟩⟩
                        obtain ⟨X, E, P5, p5, Q5, q5, rfl, HXE, CB, Cb2, Cd, Cl, Cb5, Cx, Cb6⟩ := hcut
                        go_wp2_with (fail)
                        go_loopg [12] l.length (fun kq v12 w' => ∃ (k : Nat) (P6 : Option Addr) (p6 : Nat) (Q6 : Option Addr) (q6 : Nat), v12 = .int .i64 k ∧ Aside0 (k ≤ l.length ∧ kq + k = l.length) ∧ Aside0 (Below w.heap.size w w') ∧ Aside0 (w'.heap[w.heap.size]? = some (.cells #[.slice P0 d.s.length p0, .slice Q0 d.p.length q0, .int .i64 d.left, .bool d.st] 25 (0, 0))) ∧ Aside0 (DiskF w' (fun k => k < w.heap.size) (.agg #[.slice P0 d.s.length p0, .slice Q0 d.p.length q0, .int .i64 d.left, .bool d.st]) d) ∧ Aside0 (Kd.F k57 w' (fun k => k < w.heap.size) A1 l.length l) ∧ Aside0 (w'.heap[b5]? = some (.cells #[.slice P5 X.s.length p5, .slice Q5 X.p.length q5, .int .i64 X.left, .bool X.st] 25 (0, 0))) ∧ Aside0 (DiskF w' (fun k => k ≠ b5 ∧ k ≠ b6) (.agg #[.slice P5 X.s.length p5, .slice Q5 X.p.length q5, .int .i64 X.left, .bool X.st]) X) ∧ Aside0 (w'.heap[b6]? = some (.cells #[.slice P6 (togY d l k).s.length p6, .slice Q6 (togY d l k).p.length q6, .int .i64 (togY d l k).left, .bool (togY d l k).st] 25 (0, 0))) ∧ Aside0 (DiskF w' (fun k => k ≠ b5 ∧ k ≠ b6) (.agg #[.slice P6 (togY d l k).s.length p6, .slice Q6 (togY d l k).p.length q6, .int .i64 (togY d l k).left, .bool (togY d l k).st]) (togY d l k)))
                        case atStart => exact ⟨0, P0, p0, Q0, q0, rfl, ⟨by omega⟩, ⟨CB.out⟩, ⟨Cb2.out⟩, ⟨Cd.out⟩, ⟨Cl.out⟩, ⟨Cb5.out⟩, ⟨Cx.out⟩, ⟨by rw [togY_zero HT.out]; exact Cb6.out⟩, ⟨by rw [togY_zero HT.out]; exact DiskF.mono Cd.out (fun k hk => by have := HN.out; (try dsimp only at hk ⊢); omega)⟩⟩
                        clear CB Cb2 Cd Cl Cb5 Cx Cb6
                        obtain ⟨k, P6, p6, Q6, q6, rfl, HI, GB, Gb2, Gd, Gl, Gb5, Gx, Gb6, Gy⟩ := hrel
                        by_cases hi : k < l.length
                        · skip
                          have hi0 : decide (k < l.length) = true := decide_eq_true hi
                          obtain ⟨ad, rfl, ha0, ha1, ha2⟩ := at_T57 (Kd.F_now Gl.out) (k : Int) (by omega) (by omega)
                          rw [show ((k : Int)).toNat = k by omega, show rd_T57 l (k : Int) = l.getD k z57 from by unfold rd_T57; rw [show ((k : Int)).toNat = k by omega]] at ha0 ha1 ha2
                          have hbx : 0 ≤ (l.getD k z57).f1 ∧ (l.getD k z57).f1 < 256 := by have h_ := HBY.out _ (List.getElem_mem hi); rwa [show l.getD k z57 = l[k] from by simp [List.getD_eq_getElem?_getD, List.getElem?_eq_getElem hi]]
                          clear ha0
                          obtain ⟨Y1, hY1⟩ : ∃ Y1, togY d l (k + 1) = Y1 := ⟨_, rfl⟩
                          have HYW := Aside0.mk (togY_write HT.out k hi)
                          rw [hY1] at HYW
                          replace hY1 := Aside0.mk hY1
                          obtain ⟨Y, hY⟩ : ∃ Y, togY d l k = Y := ⟨_, rfl⟩
                          rw [hY] at HYW Gb6 Gy
                          replace hY := Aside0.mk hY
                          generalize hxe : l.getD k z57 = x at *
                          clear hxe
                          have hn0 := HT.out.n0
                          have hn1 := HT.out.n1
                          obtain ⟨hb0, hb1⟩ := hbx
                          have hmod : x.f1.tmod (d.s.length : Int) = x.f1 % (d.s.length : Int) := Int.tmod_eq_emod_of_nonneg hb0
                          have hme0 : 0 ≤ x.f1 % (d.s.length : Int) := Int.emod_nonneg _ (by omega)
                          have hme1 : x.f1 % (d.s.length : Int) < (d.s.length : Int) := Int.emod_lt_of_pos _ (by omega)
                          have hmw : wrap64 (x.f1 % (d.s.length : Int)) = x.f1 % (d.s.length : Int) := by unfold wrap64; omega
                          have hmz : ((d.s.length : Int) == 0) = false := beq_eq_false_iff_ne.mpr (by omega)
                          have hcw : IntKind.i64.wrap x.f1 = x.f1 := by rw [i64_w]; unfold wrap64; omega
                          have hne : (d.s = []) = False := eq_false (fun h_ => by rw [h_] at hn0; exact absurd hn0 (by decide))
                          clear hmz
                          go_upto_region 18 with (fail)
                          have F99_ := Aside0.mk ha1
                          have F100_ := Aside0.mk ha2
                          clear ha1 ha2
                          refine start_ (n := 24) (S := fun w' => Below wr.drew.heap.size wr.drew w') (ds := []) #[false, false, false, false, false, false, false, false, false, false, false, false, false, false, false, false, false, false, false, false, false, false, false, false] (by kernel_rfl) rfl rfl (Below.refl _ _) (fun hHeld => ?_)
                          have F101_ := Aside0.mk (below_drew1 GB.out)
                          have F102_ := Aside0.mk (blk_drew Gb2.out)
                          have F103_ := Aside0.mk (DiskF.below Gd.out (below_drew1 (Below.refl _ _)))
                          have F104_ := Aside0.mk (Kd.F_drew Gl.out)
                          have F105_ := Aside0.mk (blk_drew Gb5.out)
                          have F106_ := Aside0.mk (DiskF.below Gx.out (below_drew1 (Below.refl _ _)))
                          have F107_ := Aside0.mk (blk_drew Gb6.out)
                          have F108_ := Aside0.mk (DiskF.below Gy.out (below_drew1 (Below.refl _ _)))
                          have F109_ := Aside0.mk ((Below.cell (below_drew1 (Below.refl _ _)) (World.block_lt_of_cell? _ _ F99_.out)).trans F99_.out)
                          have F110_ := Aside0.mk ((Below.cell (below_drew1 (Below.refl _ _)) (World.block_lt_of_cell? _ _ F100_.out)).trans F100_.out)
                          clear GB Gb2 Gd Gl Gb5 Gx Gb6 Gy F99_ F100_
                          generalize wr.drew = w10 at *
                          have hold_b2 := F102_.out
                          have hold_b5 := F105_.out
                          have hold_b6 := F107_.out
                          have hold_e1 := F109_.out
                          have hold_e2 := F110_.out
                          have hold_y := F108_.out
                          refine take_ (i := 0) (N := some 95) (v := ?_) (a' := ?_) #[true, false, false, false, false, false, false, false, false, false, false, false, false, false, false, false, false, false, false, false, false, false, false, false] rfl rfl (by kernel_rfl) (fun _ _ _ h => h) (Or.inl ⟨by rfl, ?_⟩) hHeld ?_ ?_
                          rotate_left
                          · rintro w' s0
                            have hz0 := blk_below hold_b6 s0
                            have yy00 := (blk_cell hz0 0).trans rfl
                            have yy01 := (blk_cell hz0 1).trans rfl
                            have yy02 := (blk_cell hz0 2).trans rfl
                            have yy03 := (blk_cell hz0 3).trans rfl
                            go_simp
                            with_reducible rfl
                          rotate_left
                          · simp only [Act.put, List.setIfInBounds_toArray, List.set_cons_zero, List.set_cons_succ, i64_w, i32_w]
                            rfl
                          refine pure_ (i := 1) (N := some 96) (v := ?_) (a' := ?_) #[true, true, false, false, false, false, false, false, false, false, false, false, false, false, false, false, false, false, false, false, false, false, false, false] rfl rfl (by kernel_rfl) (fun _ _ _ h => h) (Or.inl ⟨by rfl, ?_⟩) ?_ ?_
                          rotate_left
                          · intro w'
                            go_simp
                            with_reducible rfl
                          rotate_left
                          · simp only [Act.put, List.setIfInBounds_toArray, List.set_cons_zero, List.set_cons_succ, i64_w, i32_w]
                            rfl
                          refine pure_ (i := 2) (N := some 97) (v := ?_) (a' := ?_) #[true, true, true, false, false, false, false, false, false, false, false, false, false, false, false, false, false, false, false, false, false, false, false, false] rfl rfl (by kernel_rfl) (fun _ _ _ h => h) (Or.inl ⟨by rfl, ?_⟩) ?_ ?_
                          rotate_left
                          · intro w'
                            go_simp
                            with_reducible rfl
                          rotate_left
                          · simp only [Act.put, List.setIfInBounds_toArray, List.set_cons_zero, List.set_cons_succ, i64_w, i32_w]
                            rfl
                          refine pure_ (i := 3) (N := some 98) (v := ?_) (a' := ?_) #[true, true, true, true, false, false, false, false, false, false, false, false, false, false, false, false, false, false, false, false, false, false, false, false] rfl rfl (by kernel_rfl) (fun _ _ _ h => h) (Or.inl ⟨by rfl, ?_⟩) ?_ ?_
                          rotate_left
                          · intro w'
                            go_simp
                            with_reducible rfl
                          rotate_left
                          · simp only [Act.put, List.setIfInBounds_toArray, List.set_cons_zero, List.set_cons_succ, i64_w, i32_w]
                            rfl
                          refine pure_ (i := 4) (N := some 99) (v := ?_) (a' := ?_) #[true, true, true, true, true, false, false, false, false, false, false, false, false, false, false, false, false, false, false, false, false, false, false, false] rfl rfl (by kernel_rfl) (fun _ _ _ h => h) (Or.inl ⟨by rfl, ?_⟩) ?_ ?_
                          rotate_left
                          · intro w'
                            go_simp
                            with_reducible rfl
                          rotate_left
                          · simp only [Act.put, List.setIfInBounds_toArray, List.set_cons_zero, List.set_cons_succ, i64_w, i32_w]
                            rfl
                          refine take_ (i := 5) (N := some 100) (v := ?_) (a' := ?_) #[true, true, true, true, true, true, false, false, false, false, false, false, false, false, false, false, false, false, false, false, false, false, false, false] rfl rfl (by kernel_rfl) (fun _ _ _ h => h) (Or.inl ⟨by rfl, ?_⟩) hHeld ?_ ?_
                          rotate_left
                          · rintro w' s0
                            have q0 := (Below.cell s0 (World.block_lt_of_cell? _ _ hold_e1)).trans hold_e1
                            go_simp
                            with_reducible rfl
                          rotate_left
                          · simp only [Act.put, List.setIfInBounds_toArray, List.set_cons_zero, List.set_cons_succ, i64_w, i32_w]
                            rfl
                          refine pure_ (i := 6) (N := some 101) (v := ?_) (a' := ?_) #[true, true, true, true, true, true, true, false, false, false, false, false, false, false, false, false, false, false, false, false, false, false, false, false] rfl rfl (by kernel_rfl) (fun _ _ _ h => h) (Or.inl ⟨by rfl, ?_⟩) ?_ ?_
                          rotate_left
                          · intro w'
                            go_simp
                            with_reducible rfl
                          rotate_left
                          · simp only [Act.put, List.setIfInBounds_toArray, List.set_cons_zero, List.set_cons_succ, i64_w, i32_w]
                            rfl
                          refine pure_ (i := 7) (N := some 102) (v := ?_) (a' := ?_) #[true, true, true, true, true, true, true, true, false, false, false, false, false, false, false, false, false, false, false, false, false, false, false, false] rfl rfl (by kernel_rfl) (fun _ _ _ h => h) (Or.inl ⟨by rfl, ?_⟩) ?_ ?_
                          rotate_left
                          · intro w'
                            go_simp
                            with_reducible rfl
                          rotate_left
                          · simp only [Act.put, List.setIfInBounds_toArray, List.set_cons_zero, List.set_cons_succ, i64_w, i32_w]
                            rfl
                          refine take_ (i := 8) (N := some 103) (v := ?_) (a' := ?_) #[true, true, true, true, true, true, true, true, true, false, false, false, false, false, false, false, false, false, false, false, false, false, false, false] rfl rfl (by kernel_rfl) (fun _ _ _ h => h) (Or.inl ⟨by rfl, ?_⟩) hHeld ?_ ?_
                          rotate_left
                          · rintro w' s0
                            have hz0 := blk_below hold_b2 s0
                            have yy00 := (blk_cell hz0 0).trans rfl
                            go_simp
                            with_reducible rfl
                          rotate_left
                          · simp only [Act.put, List.setIfInBounds_toArray, List.set_cons_zero, List.set_cons_succ, i64_w, i32_w]
                            rfl
                          refine pure_ (i := 9) (N := some 104) (v := ?_) (a' := ?_) #[true, true, true, true, true, true, true, true, true, true, false, false, false, false, false, false, false, false, false, false, false, false, false, false] rfl rfl (by kernel_rfl) (fun _ _ _ h => h) (Or.inl ⟨by rfl, ?_⟩) ?_ ?_
                          rotate_left
                          · intro w'
                            go_simp
                            with_reducible rfl
                          rotate_left
                          · simp only [Act.put, List.setIfInBounds_toArray, List.set_cons_zero, List.set_cons_succ, i64_w, i32_w]
                            rfl
                          refine pure_ (i := 10) (N := some 105) (v := ?_) (a' := ?_) #[true, true, true, true, true, true, true, true, true, true, true, false, false, false, false, false, false, false, false, false, false, false, false, false] rfl rfl (by kernel_rfl) (fun _ _ _ h => h) (Or.inl ⟨by rfl, ?_⟩) ?_ ?_
                          rotate_left
                          · intro w'
                            go_simp
                            with_reducible rfl
                          rotate_left
                          · simp only [Act.put, List.setIfInBounds_toArray, List.set_cons_zero, List.set_cons_succ, i64_w, i32_w]
                            rfl
                          refine pure_ (i := 11) (N := some 106) (v := ?_) (a' := ?_) #[true, true, true, true, true, true, true, true, true, true, true, true, false, false, false, false, false, false, false, false, false, false, false, false] rfl rfl (by kernel_rfl) (fun _ _ _ h => h) (Or.inl ⟨by rfl, ?_⟩) ?_ ?_
                          rotate_left
                          · intro w'
                            go_simp
                            with_reducible rfl
                          rotate_left
                          · simp only [Act.put, List.setIfInBounds_toArray, List.set_cons_zero, List.set_cons_succ, i64_w, i32_w]
                            rfl
                          refine pure_ (i := 12) (N := some 107) (v := ?_) (a' := ?_) #[true, true, true, true, true, true, true, true, true, true, true, true, true, false, false, false, false, false, false, false, false, false, false, false] rfl rfl (by kernel_rfl) (fun _ _ _ h => h) (Or.inl ⟨by rfl, ?_⟩) ?_ ?_
                          rotate_left
                          · intro w'
                            go_simp
                            with_reducible rfl
                          rotate_left
                          · simp only [Act.put, List.setIfInBounds_toArray, List.set_cons_zero, List.set_cons_succ, i64_w, i32_w]
                            rfl
                          refine pure_ (i := 13) (N := some 108) (v := ?_) (a' := ?_) #[true, true, true, true, true, true, true, true, true, true, true, true, true, true, false, false, false, false, false, false, false, false, false, false] rfl rfl (by kernel_rfl) (fun _ _ _ h => h) (Or.inl ⟨by rfl, ?_⟩) ?_ ?_
                          rotate_left
                          · intro w'
                            go_simp
                            with_reducible rfl
                          rotate_left
                          · simp only [Act.put, List.setIfInBounds_toArray, List.set_cons_zero, List.set_cons_succ, i64_w, i32_w]
                            rfl
                          refine pure_ (i := 14) (N := some 109) (v := ?_) (a' := ?_) #[true, true, true, true, true, true, true, true, true, true, true, true, true, true, true, false, false, false, false, false, false, false, false, false] rfl rfl (by kernel_rfl) (fun _ _ _ h => h) (Or.inl ⟨by rfl, ?_⟩) ?_ ?_
                          rotate_left
                          · intro w'
                            go_simp
                            with_reducible rfl
                          rotate_left
                          · simp only [Act.put, List.setIfInBounds_toArray, List.set_cons_zero, List.set_cons_succ, i64_w, i32_w]
                            rfl
                          refine take_ (i := 15) (N := some 110) (v := ?_) (a' := ?_) #[true, true, true, true, true, true, true, true, true, true, true, true, true, true, true, true, false, false, false, false, false, false, false, false] rfl rfl (by kernel_rfl) (fun _ _ _ h => h) (Or.inl ⟨by rfl, ?_⟩) hHeld ?_ ?_
                          rotate_left
                          · rintro w' s0
                            have q0 := (Below.cell s0 (World.block_lt_of_cell? _ _ hold_e2)).trans hold_e2
                            go_simp
                            with_reducible rfl
                          rotate_left
                          · simp only [Act.put, List.setIfInBounds_toArray, List.set_cons_zero, List.set_cons_succ, i64_w, i32_w]
                            rfl
                          clear hmod hme0 hme1 hmw hcw hne hn0 hn1
                          have F111_ := Aside0.mk (DiskF.bound F106_.out)
                          clear F106_
                          have hltA := Aside0.mk (And.intro (blk_lt hold_b5) (blk_lt hold_b6))
                          refine join_ (σ := Value × (Option Addr × Nat × Option Addr × Nat) × Nat) 2 #[true, true, true, true, true, true, true, true, true, true, true, true, true, true, true, true, true, true, true, true, true, true, false, false] (fun s_ => [(111, s_.1), (112, .tuple #[(.agg #[.slice s_.2.1.1 Y1.s.length s_.2.1.2.1, .slice s_.2.1.2.2.1 Y1.p.length s_.2.1.2.2.2, .int .i64 Y1.left, .bool Y1.st]), .int .i64 0]), (94, .tuple #[(.agg #[.slice s_.2.1.1 Y1.s.length s_.2.1.2.1, .slice s_.2.1.2.2.1 Y1.p.length s_.2.1.2.2.2, .int .i64 Y1.left, .bool Y1.st]), .int .i64 0]), (113, (.agg #[.slice s_.2.1.1 Y1.s.length s_.2.1.2.1, .slice s_.2.1.2.2.1 Y1.p.length s_.2.1.2.2.2, .int .i64 Y1.left, .bool Y1.st])), (114, .int .i64 0), (13, .pointer (some ⟨s_.2.2, 0, none⟩))]) (fun s_ w' => Below w10.heap.size w10 w' ∧ DiskF w' (fun k => (k ≠ b5 ∧ k ≠ b6) ∧ k ≠ s_.2.2) (.agg #[.slice s_.2.1.1 Y1.s.length s_.2.1.2.1, .slice s_.2.1.2.2.1 Y1.p.length s_.2.1.2.2.2, .int .i64 Y1.left, .bool Y1.st]) Y1 ∧ w'.heap[s_.2.2]? = some (.cells #[.slice none 0 0, .slice none 0 0, .int .i64 0, .bool false] 25 (0, 0)) ∧ w10.heap.size ≤ s_.2.2) ?_ ?_
                          rotate_left
                          · intro hCont
                            refine two_ (i := 16) (j := 21) (Ni := some 111) (Nj := some 13) #[true, true, true, true, true, true, true, true, true, true, true, true, true, true, true, true, true, false, false, false, false, false, false, false] #[true, true, true, true, true, true, true, true, true, true, true, true, true, true, true, true, false, false, false, false, false, true, false, false] rfl rfl rfl rfl (by kernel_rfl) (by decide) (by decide) (fun K hK => ?_) (fun K hK => ?_)
                            · skip
                              refine value_ (w1 := ?_) (v := ?_) (by rfl) rfl ?_ ?_
                              rotate_left 2
                              · go_simp
                                constructor
                                · rfl
                                · rfl
                              refine hK.out _ _ (below_alloc hHeld _) (fun hHeld => ?_)
                              clear hK K
                              refine norm_ (a' := ?_) ?_ ?_
                              rotate_left
                              · show Act.put _ (some 111) _ = _
                                simp only [Act.put, List.setIfInBounds_toArray, List.set_cons_zero, List.set_cons_succ, i64_w, i32_w]
                                rfl
                              refine two_ (i := 17) (j := 21) (Ni := some 112) (Nj := some 13) #[true, true, true, true, true, true, true, true, true, true, true, true, true, true, true, true, true, true, false, false, false, false, false, false] #[true, true, true, true, true, true, true, true, true, true, true, true, true, true, true, true, true, false, false, false, false, true, false, false] rfl rfl rfl rfl (by kernel_rfl) (by decide) (by decide) (fun K hK => ?_) (fun K hK => ?_)
                              · skip
                                refine goes_ Try.func26 (by kernel_rfl) rfl #[(.agg #[.slice P6 Y.s.length p6, .slice Q6 Y.p.length q6, .int .i64 Y.left, .bool Y.st]), .int .i64 (x.f1 % (d.s.length : Int)), (.slice (some ⟨w10.heap.size, 0, none⟩) 1 1)] (by rfl) rfl rfl (by (try simp only [List.map_toArray, List.map_cons, List.map_nil]); first | done | rfl) ?_
                                refine ((writeF_says (fun k => (k ≠ b5 ∧ k ≠ b6) ∧ k < w10.heap.size) _ _ Y (x.f1 % (d.s.length : Int)) [x.f2] _ (DiskF.below (DiskF.bound hold_y) (below_alloc (Below.refl _ _) (.cells #[.int .u8 x.f2] 5))) ⟨_, _, rfl, Nat.le_refl _, bytes_C0 (l := [x.f2]) (blk_new w10 (.cells #[.int .u8 x.f2] 5)) (by simp)⟩).mono (fun e w' h => DEF.of h HYW.out)).mono ?_
                                rintro e w_c ⟨⟨P_c, p_c, Q_c, q_c, rfl, hd⟩, hb⟩
                                refine ⟨_, rfl, ?_⟩
                                refine hK.out _ _ (below_step hHeld hb) (fun hHeld => ?_)
                                clear hK K
                                refine norm_ (a' := ?_) ?_ ?_
                                rotate_left
                                · show Act.put _ (some 112) _ = _
                                  simp only [Act.put, List.setIfInBounds_toArray, List.set_cons_zero, List.set_cons_succ, i64_w, i32_w]
                                  rfl
                                refine pure_ (i := 18) (N := some 94) (v := ?_) (a' := ?_) #[true, true, true, true, true, true, true, true, true, true, true, true, true, true, true, true, true, true, true, false, false, false, false, false] rfl rfl (by kernel_rfl) (fun _ _ _ h => h) (Or.inl ⟨by rfl, ?_⟩) ?_ ?_
                                rotate_left
                                · intro w'
                                  go_simp
                                  with_reducible rfl
                                rotate_left
                                · simp only [Act.put, List.setIfInBounds_toArray, List.set_cons_zero, List.set_cons_succ, i64_w, i32_w]
                                  rfl
                                refine pure_ (i := 19) (N := some 113) (v := ?_) (a' := ?_) #[true, true, true, true, true, true, true, true, true, true, true, true, true, true, true, true, true, true, true, true, false, false, false, false] rfl rfl (by kernel_rfl) (fun _ _ _ h => h) (Or.inl ⟨by rfl, ?_⟩) ?_ ?_
                                rotate_left
                                · intro w'
                                  go_simp
                                  with_reducible rfl
                                rotate_left
                                · simp only [Act.put, List.setIfInBounds_toArray, List.set_cons_zero, List.set_cons_succ, i64_w, i32_w]
                                  rfl
                                refine pure_ (i := 20) (N := some 114) (v := ?_) (a' := ?_) #[true, true, true, true, true, true, true, true, true, true, true, true, true, true, true, true, true, true, true, true, true, false, false, false] rfl rfl (by kernel_rfl) (fun _ _ _ h => h) (Or.inl ⟨by rfl, ?_⟩) ?_ ?_
                                rotate_left
                                · intro w'
                                  go_simp
                                  with_reducible rfl
                                rotate_left
                                · simp only [Act.put, List.setIfInBounds_toArray, List.set_cons_zero, List.set_cons_succ, i64_w, i32_w]
                                  rfl
                                refine one_ (i := 21) (N := some 13) #[true, true, true, true, true, true, true, true, true, true, true, true, true, true, true, true, true, true, true, true, true, true, false, false] rfl rfl (by kernel_rfl) (by decide) (fun K hK => ?_)
                                refine value_ (w1 := ?_) (v := ?_) (by rfl) rfl ?_ ?_
                                rotate_left 2
                                · go_simp
                                  constructor
                                  · rfl
                                  · rfl
                                refine hK.out _ _ (below_alloc hHeld _) (fun hHeld => ?_)
                                clear hK K
                                refine norm_ (a' := ?_) ?_ ?_
                                rotate_left
                                · show Act.put _ (some 13) _ = _
                                  simp only [Act.put, List.setIfInBounds_toArray, List.set_cons_zero, List.set_cons_succ, i64_w, i32_w]
                                  rfl
                                exact norm_ (by simp only [putAll, Act.put, List.setIfInBounds_toArray, List.set_cons_zero, List.set_cons_succ]) (hCont (.slice (some ⟨w10.heap.size, 0, none⟩) 1 1, (P_c, p_c, Q_c, q_c), w_c.heap.size) _ ⟨hHeld, DiskF.mono (DiskF.below (DiskF.bound hd) (below_alloc (Below.refl _ _) (.cells #[.slice none 0 0, .slice none 0 0, .int .i64 0, .bool false] 25))) (fun k hk => by have := hltA.out; (try simp only [World.size_alloc] at hk); (try dsimp only at hk); (try dsimp only); omega), blk_new w_c (.cells #[.slice none 0 0, .slice none 0 0, .int .i64 0, .bool false] 25), (Nat.le_trans (by simp) hb.size)⟩)
                              · skip
                                refine value_ (w1 := ?_) (v := ?_) (by rfl) rfl ?_ ?_
                                rotate_left 2
                                · go_simp
                                  constructor
                                  · rfl
                                  · rfl
                                refine hK.out _ _ (below_alloc hHeld _) (fun hHeld => ?_)
                                clear hK K
                                refine norm_ (a' := ?_) ?_ ?_
                                rotate_left
                                · show Act.put _ (some 13) _ = _
                                  simp only [Act.put, List.setIfInBounds_toArray, List.set_cons_zero, List.set_cons_succ, i64_w, i32_w]
                                  rfl
                                refine one_ (i := 17) (N := some 112) #[true, true, true, true, true, true, true, true, true, true, true, true, true, true, true, true, true, true, false, false, false, true, false, false] rfl rfl (by kernel_rfl) (by decide) (fun K hK => ?_)
                                refine goes_ Try.func26 (by kernel_rfl) rfl #[(.agg #[.slice P6 Y.s.length p6, .slice Q6 Y.p.length q6, .int .i64 Y.left, .bool Y.st]), .int .i64 (x.f1 % (d.s.length : Int)), (.slice (some ⟨w10.heap.size, 0, none⟩) 1 1)] (by rfl) rfl rfl (by (try simp only [List.map_toArray, List.map_cons, List.map_nil]); first | done | rfl) ?_
                                refine ((writeF_says (fun k => (k ≠ b5 ∧ k ≠ b6) ∧ k < w10.heap.size) _ _ Y (x.f1 % (d.s.length : Int)) [x.f2] _ (DiskF.below (DiskF.bound hold_y) (below_alloc (below_alloc (Below.refl _ _) (.cells #[.int .u8 x.f2] 5)) (.cells #[.slice none 0 0, .slice none 0 0, .int .i64 0, .bool false] 25))) ⟨_, _, rfl, Nat.le_refl _, bytes_C0 (l := [x.f2]) (blk_alloc (blk_new w10 (.cells #[.int .u8 x.f2] 5)) (.cells #[.slice none 0 0, .slice none 0 0, .int .i64 0, .bool false] 25)) (by simp)⟩).mono (fun e w' h => DEF.of h HYW.out)).mono ?_
                                rintro e w_c ⟨⟨P_c, p_c, Q_c, q_c, rfl, hd⟩, hb⟩
                                refine ⟨_, rfl, ?_⟩
                                refine hK.out _ _ (below_step hHeld hb) (fun hHeld => ?_)
                                clear hK K
                                refine norm_ (a' := ?_) ?_ ?_
                                rotate_left
                                · show Act.put _ (some 112) _ = _
                                  simp only [Act.put, List.setIfInBounds_toArray, List.set_cons_zero, List.set_cons_succ, i64_w, i32_w]
                                  rfl
                                refine pure_ (i := 18) (N := some 94) (v := ?_) (a' := ?_) #[true, true, true, true, true, true, true, true, true, true, true, true, true, true, true, true, true, true, true, false, false, true, false, false] rfl rfl (by kernel_rfl) (fun _ _ _ h => h) (Or.inl ⟨by rfl, ?_⟩) ?_ ?_
                                rotate_left
                                · intro w'
                                  go_simp
                                  with_reducible rfl
                                rotate_left
                                · simp only [Act.put, List.setIfInBounds_toArray, List.set_cons_zero, List.set_cons_succ, i64_w, i32_w]
                                  rfl
                                refine pure_ (i := 19) (N := some 113) (v := ?_) (a' := ?_) #[true, true, true, true, true, true, true, true, true, true, true, true, true, true, true, true, true, true, true, true, false, true, false, false] rfl rfl (by kernel_rfl) (fun _ _ _ h => h) (Or.inl ⟨by rfl, ?_⟩) ?_ ?_
                                rotate_left
                                · intro w'
                                  go_simp
                                  with_reducible rfl
                                rotate_left
                                · simp only [Act.put, List.setIfInBounds_toArray, List.set_cons_zero, List.set_cons_succ, i64_w, i32_w]
                                  rfl
                                refine pure_ (i := 20) (N := some 114) (v := ?_) (a' := ?_) #[true, true, true, true, true, true, true, true, true, true, true, true, true, true, true, true, true, true, true, true, true, true, false, false] rfl rfl (by kernel_rfl) (fun _ _ _ h => h) (Or.inl ⟨by rfl, ?_⟩) ?_ ?_
                                rotate_left
                                · intro w'
                                  go_simp
                                  with_reducible rfl
                                rotate_left
                                · simp only [Act.put, List.setIfInBounds_toArray, List.set_cons_zero, List.set_cons_succ, i64_w, i32_w]
                                  rfl
                                exact norm_ (by simp only [putAll, Act.put, List.setIfInBounds_toArray, List.set_cons_zero, List.set_cons_succ]) (hCont (.slice (some ⟨w10.heap.size, 0, none⟩) 1 1, (P_c, p_c, Q_c, q_c), w10.heap.size + 1) _ ⟨hHeld, DiskF.mono hd (fun k hk => by have := hltA.out; (try simp only [World.size_alloc] at hk); (try dsimp only at hk); (try dsimp only); omega), (by have h_ := blk_below (blk_new (w10.alloc (.cells #[.int .u8 x.f2] 5)) (.cells #[.slice none 0 0, .slice none 0 0, .int .i64 0, .bool false] 25)) hb; rw [World.size_alloc] at h_; exact h_), (Nat.le_succ _)⟩)
                            · skip
                              refine value_ (w1 := ?_) (v := ?_) (by rfl) rfl ?_ ?_
                              rotate_left 2
                              · go_simp
                                constructor
                                · rfl
                                · rfl
                              refine hK.out _ _ (below_alloc hHeld _) (fun hHeld => ?_)
                              clear hK K
                              refine norm_ (a' := ?_) ?_ ?_
                              rotate_left
                              · show Act.put _ (some 13) _ = _
                                simp only [Act.put, List.setIfInBounds_toArray, List.set_cons_zero, List.set_cons_succ, i64_w, i32_w]
                                rfl
                              refine one_ (i := 16) (N := some 111) #[true, true, true, true, true, true, true, true, true, true, true, true, true, true, true, true, true, false, false, false, false, true, false, false] rfl rfl (by kernel_rfl) (by decide) (fun K hK => ?_)
                              refine value_ (w1 := ?_) (v := ?_) (by rfl) rfl ?_ ?_
                              rotate_left 2
                              · go_simp
                                constructor
                                · rfl
                                · rfl
                              refine hK.out _ _ (below_alloc hHeld _) (fun hHeld => ?_)
                              clear hK K
                              refine norm_ (a' := ?_) ?_ ?_
                              rotate_left
                              · show Act.put _ (some 111) _ = _
                                simp only [Act.put, List.setIfInBounds_toArray, List.set_cons_zero, List.set_cons_succ, i64_w, i32_w]
                                rfl
                              refine one_ (i := 17) (N := some 112) #[true, true, true, true, true, true, true, true, true, true, true, true, true, true, true, true, true, true, false, false, false, true, false, false] rfl rfl (by kernel_rfl) (by decide) (fun K hK => ?_)
                              refine goes_ Try.func26 (by kernel_rfl) rfl #[(.agg #[.slice P6 Y.s.length p6, .slice Q6 Y.p.length q6, .int .i64 Y.left, .bool Y.st]), .int .i64 (x.f1 % (d.s.length : Int)), (.slice (some ⟨w10.heap.size + 1, 0, none⟩) 1 1)] (by rfl) rfl rfl (by (try simp only [List.map_toArray, List.map_cons, List.map_nil]); first | done | rfl) ?_
                              refine ((writeF_says (fun k => (k ≠ b5 ∧ k ≠ b6) ∧ k < w10.heap.size) _ _ Y (x.f1 % (d.s.length : Int)) [x.f2] _ (DiskF.below (DiskF.bound hold_y) (below_alloc (below_alloc (Below.refl _ _) (.cells #[.slice none 0 0, .slice none 0 0, .int .i64 0, .bool false] 25)) (.cells #[.int .u8 x.f2] 5))) ⟨_, _, rfl, Nat.le_refl _, bytes_C0 (l := [x.f2]) (by have h_ := blk_new (w10.alloc (.cells #[.slice none 0 0, .slice none 0 0, .int .i64 0, .bool false] 25)) (.cells #[.int .u8 x.f2] 5); rw [World.size_alloc] at h_; exact h_) (by simp)⟩).mono (fun e w' h => DEF.of h HYW.out)).mono ?_
                              rintro e w_c ⟨⟨P_c, p_c, Q_c, q_c, rfl, hd⟩, hb⟩
                              refine ⟨_, rfl, ?_⟩
                              refine hK.out _ _ (below_step hHeld hb) (fun hHeld => ?_)
                              clear hK K
                              refine norm_ (a' := ?_) ?_ ?_
                              rotate_left
                              · show Act.put _ (some 112) _ = _
                                simp only [Act.put, List.setIfInBounds_toArray, List.set_cons_zero, List.set_cons_succ, i64_w, i32_w]
                                rfl
                              refine pure_ (i := 18) (N := some 94) (v := ?_) (a' := ?_) #[true, true, true, true, true, true, true, true, true, true, true, true, true, true, true, true, true, true, true, false, false, true, false, false] rfl rfl (by kernel_rfl) (fun _ _ _ h => h) (Or.inl ⟨by rfl, ?_⟩) ?_ ?_
                              rotate_left
                              · intro w'
                                go_simp
                                with_reducible rfl
                              rotate_left
                              · simp only [Act.put, List.setIfInBounds_toArray, List.set_cons_zero, List.set_cons_succ, i64_w, i32_w]
                                rfl
                              refine pure_ (i := 19) (N := some 113) (v := ?_) (a' := ?_) #[true, true, true, true, true, true, true, true, true, true, true, true, true, true, true, true, true, true, true, true, false, true, false, false] rfl rfl (by kernel_rfl) (fun _ _ _ h => h) (Or.inl ⟨by rfl, ?_⟩) ?_ ?_
                              rotate_left
                              · intro w'
                                go_simp
                                with_reducible rfl
                              rotate_left
                              · simp only [Act.put, List.setIfInBounds_toArray, List.set_cons_zero, List.set_cons_succ, i64_w, i32_w]
                                rfl
                              refine pure_ (i := 20) (N := some 114) (v := ?_) (a' := ?_) #[true, true, true, true, true, true, true, true, true, true, true, true, true, true, true, true, true, true, true, true, true, true, false, false] rfl rfl (by kernel_rfl) (fun _ _ _ h => h) (Or.inl ⟨by rfl, ?_⟩) ?_ ?_
                              rotate_left
                              · intro w'
                                go_simp
                                with_reducible rfl
                              rotate_left
                              · simp only [Act.put, List.setIfInBounds_toArray, List.set_cons_zero, List.set_cons_succ, i64_w, i32_w]
                                rfl
                              exact norm_ (by simp only [putAll, Act.put, List.setIfInBounds_toArray, List.set_cons_zero, List.set_cons_succ]) (hCont (.slice (some ⟨w10.heap.size + 1, 0, none⟩) 1 1, (P_c, p_c, Q_c, q_c), w10.heap.size) _ ⟨hHeld, DiskF.mono hd (fun k hk => by have := hltA.out; (try simp only [World.size_alloc] at hk); (try dsimp only at hk); (try dsimp only); omega), (blk_below (blk_alloc (blk_new w10 (.cells #[.slice none 0 0, .slice none 0 0, .int .i64 0, .bool false] 25)) (.cells #[.int .u8 x.f2] 5)) hb), (Nat.le_refl _)⟩)
                          rintro ⟨v_l, ⟨P9, p9, Q9, q9⟩, b10⟩ w11 ⟨hHeld, ⟨hdz, hbz, hlez⟩⟩
                          dsimp only at *
                          refine norm_ (a' := ?_) ?_ ?_
                          rotate_left
                          · simp only [putAll, Act.put, List.setIfInBounds_toArray, List.set_cons_zero, List.set_cons_succ]
                            rfl
                          have F112_ := Aside0.mk (below_step F101_.out hHeld)
                          have F113_ := Aside0.mk (blk_below F102_.out hHeld)
                          have F114_ := Aside0.mk (DiskF.below F103_.out hHeld)
                          have F115_ := Aside0.mk (Kd.F_below F104_.out hHeld)
                          have F116_ := Aside0.mk (blk_below F105_.out hHeld)
                          have F117_ := Aside0.mk (DiskF.below F111_.out hHeld)
                          have F118_ := Aside0.mk (blk_below F107_.out hHeld)
                          have F119_ := Aside0.mk (DiskF.below F108_.out hHeld)
                          have F120_ := Aside0.mk ((Below.cell hHeld (World.block_lt_of_cell? _ _ F109_.out)).trans F109_.out)
                          have F121_ := Aside0.mk ((Below.cell hHeld (World.block_lt_of_cell? _ _ F110_.out)).trans F110_.out)
                          clear F101_ F102_ F103_ F104_ F105_ F111_ F107_ F108_ F109_ F110_
                          clear F119_ F120_ F121_
                          have F122_ := Aside0.mk (hdz)
                          have F123_ := Aside0.mk (hbz)
                          have HN10 := Aside0.mk (show w.heap.size < b10 ∧ b5 ≠ b10 ∧ b6 ≠ b10 from ⟨Nat.lt_of_lt_of_le (Nat.lt_trans HN.out.1 hltA.out.1) hlez, Nat.ne_of_lt (Nat.lt_of_lt_of_le hltA.out.1 hlez), Nat.ne_of_lt (Nat.lt_of_lt_of_le hltA.out.2 hlez)⟩)
                          replace hlez := Aside0.mk hlez
                          clear hdz hbz hold_b2 hold_b5 hold_b6 hold_e1 hold_e2 hold_y
                          have z0 := (blk_cell F123_.out 0).trans rfl
                          have z1 := (blk_cell F123_.out 1).trans rfl
                          have z2 := (blk_cell F123_.out 2).trans rfl
                          have z3 := (blk_cell F123_.out 3).trans rfl
                          have zf0 := blk_frozen F123_.out 0
                          have zf1 := blk_frozen F123_.out 1
                          have zf2 := blk_frozen F123_.out 2
                          have zf3 := blk_frozen F123_.out 3
                          refine one_ (i := 22) (N := none) #[true, true, true, true, true, true, true, true, true, true, true, true, true, true, true, true, true, true, true, true, true, true, true, false] rfl rfl (by kernel_rfl) (by decide) (fun K hK => ?_)
                          refine skip_ (w1 := ?_) (by rfl) rfl ?_ ?_
                          rotate_left
                          · go_simp
                            rfl
                          refine hK.out _ _ (by refine Below.setCell ?_ hlez.out _; refine Below.setCell ?_ hlez.out _; refine Below.setCell ?_ hlez.out _; refine Below.setCell ?_ hlez.out _; exact hHeld) (fun hHeld => ?_)
                          clear hK K
                          clear z0 z1 z2 z3
                          clear zf0 zf1 zf2 zf3
                          have F124_ := Aside0.mk (Below.setCell (p := ⟨b10, 3, none⟩) (Below.setCell (p := ⟨b10, 2, none⟩) (Below.setCell (p := ⟨b10, 1, none⟩) (Below.setCell (p := ⟨b10, 0, none⟩) F112_.out (Nat.le_of_lt HN10.out.1) (.slice P9 Y1.s.length p9)) (Nat.le_of_lt HN10.out.1) (.slice Q9 Y1.p.length q9)) (Nat.le_of_lt HN10.out.1) (.int .i64 Y1.left)) (Nat.le_of_lt HN10.out.1) (.bool Y1.st))
                          have F125_ := Aside0.mk (blk_far (blk_far (blk_far (blk_far F113_.out (p := ⟨b10, 0, none⟩) (by have := HN10.out; simp; omega) (.slice P9 Y1.s.length p9)) (p := ⟨b10, 1, none⟩) (by have := HN10.out; simp; omega) (.slice Q9 Y1.p.length q9)) (p := ⟨b10, 2, none⟩) (by have := HN10.out; simp; omega) (.int .i64 Y1.left)) (p := ⟨b10, 3, none⟩) (by have := HN10.out; simp; omega) (.bool Y1.st))
                          have F126_ := Aside0.mk (DiskF.far (DiskF.far (DiskF.far (DiskF.far F114_.out (p := ⟨b10, 0, none⟩) (fun k_ hk_ => by have := HN10.out; dsimp only at hk_ ⊢; omega) (.slice P9 Y1.s.length p9)) (p := ⟨b10, 1, none⟩) (fun k_ hk_ => by have := HN10.out; dsimp only at hk_ ⊢; omega) (.slice Q9 Y1.p.length q9)) (p := ⟨b10, 2, none⟩) (fun k_ hk_ => by have := HN10.out; dsimp only at hk_ ⊢; omega) (.int .i64 Y1.left)) (p := ⟨b10, 3, none⟩) (fun k_ hk_ => by have := HN10.out; dsimp only at hk_ ⊢; omega) (.bool Y1.st))
                          have F127_ := Aside0.mk (Kd.F_far (Kd.F_far (Kd.F_far (Kd.F_far F115_.out (p := ⟨b10, 0, none⟩) (fun k_ hk_ => by have := HN10.out; dsimp only at hk_ ⊢; omega) (.slice P9 Y1.s.length p9)) (p := ⟨b10, 1, none⟩) (fun k_ hk_ => by have := HN10.out; dsimp only at hk_ ⊢; omega) (.slice Q9 Y1.p.length q9)) (p := ⟨b10, 2, none⟩) (fun k_ hk_ => by have := HN10.out; dsimp only at hk_ ⊢; omega) (.int .i64 Y1.left)) (p := ⟨b10, 3, none⟩) (fun k_ hk_ => by have := HN10.out; dsimp only at hk_ ⊢; omega) (.bool Y1.st))
                          have F128_ := Aside0.mk (blk_far (blk_far (blk_far (blk_far F116_.out (p := ⟨b10, 0, none⟩) (by have := HN10.out; simp; omega) (.slice P9 Y1.s.length p9)) (p := ⟨b10, 1, none⟩) (by have := HN10.out; simp; omega) (.slice Q9 Y1.p.length q9)) (p := ⟨b10, 2, none⟩) (by have := HN10.out; simp; omega) (.int .i64 Y1.left)) (p := ⟨b10, 3, none⟩) (by have := HN10.out; simp; omega) (.bool Y1.st))
                          have F129_ := Aside0.mk (DiskF.far (DiskF.far (DiskF.far (DiskF.far F117_.out (p := ⟨b10, 0, none⟩) (fun k_ hk_ => by have := hlez.out; dsimp only at hk_ ⊢; omega) (.slice P9 Y1.s.length p9)) (p := ⟨b10, 1, none⟩) (fun k_ hk_ => by have := hlez.out; dsimp only at hk_ ⊢; omega) (.slice Q9 Y1.p.length q9)) (p := ⟨b10, 2, none⟩) (fun k_ hk_ => by have := hlez.out; dsimp only at hk_ ⊢; omega) (.int .i64 Y1.left)) (p := ⟨b10, 3, none⟩) (fun k_ hk_ => by have := hlez.out; dsimp only at hk_ ⊢; omega) (.bool Y1.st))
                          have F130_ := Aside0.mk (blk_far (blk_far (blk_far (blk_far F118_.out (p := ⟨b10, 0, none⟩) (by have := HN10.out; simp; omega) (.slice P9 Y1.s.length p9)) (p := ⟨b10, 1, none⟩) (by have := HN10.out; simp; omega) (.slice Q9 Y1.p.length q9)) (p := ⟨b10, 2, none⟩) (by have := HN10.out; simp; omega) (.int .i64 Y1.left)) (p := ⟨b10, 3, none⟩) (by have := HN10.out; simp; omega) (.bool Y1.st))
                          have F131_ := Aside0.mk (DiskF.far (DiskF.far (DiskF.far (DiskF.far F122_.out (p := ⟨b10, 0, none⟩) (fun k_ hk_ => by dsimp only at hk_ ⊢; omega) (.slice P9 Y1.s.length p9)) (p := ⟨b10, 1, none⟩) (fun k_ hk_ => by dsimp only at hk_ ⊢; omega) (.slice Q9 Y1.p.length q9)) (p := ⟨b10, 2, none⟩) (fun k_ hk_ => by dsimp only at hk_ ⊢; omega) (.int .i64 Y1.left)) (p := ⟨b10, 3, none⟩) (fun k_ hk_ => by dsimp only at hk_ ⊢; omega) (.bool Y1.st))
                          have F132_ := Aside0.mk (show ((((w11.setCell ⟨b10, 0, none⟩ (.slice P9 Y1.s.length p9)).setCell ⟨b10, 1, none⟩ (.slice Q9 Y1.p.length q9)).setCell ⟨b10, 2, none⟩ (.int .i64 Y1.left)).setCell ⟨b10, 3, none⟩ (.bool Y1.st)).heap[b10]? = some (.cells #[.slice P9 Y1.s.length p9, .slice Q9 Y1.p.length q9, .int .i64 Y1.left, .bool Y1.st] 25 (0, 0)) from (blk_set (blk_set (blk_set (blk_set F123_.out 0 (.slice P9 Y1.s.length p9)) 1 (.slice Q9 Y1.p.length q9)) 2 (.int .i64 Y1.left)) 3 (.bool Y1.st)))
                          clear F112_ F113_ F114_ F115_ F116_ F117_ F118_ F122_ F123_
                          generalize ((((w11.setCell ⟨b10, 0, none⟩ (.slice P9 Y1.s.length p9)).setCell ⟨b10, 1, none⟩ (.slice Q9 Y1.p.length q9)).setCell ⟨b10, 2, none⟩ (.int .i64 Y1.left)).setCell ⟨b10, 3, none⟩ (.bool Y1.st)) = w12 at *
                          have F133_ := Aside0.mk (DiskF.mono (ok' := fun k => k ≠ b5 ∧ k ≠ b6) F129_.out (fun k hk => hk.1))
                          clear F129_
                          refine pure_ (i := 23) (N := some 14) (v := ?_) (a' := ?_) #[true, true, true, true, true, true, true, true, true, true, true, true, true, true, true, true, true, true, true, true, true, true, true, true] rfl rfl (by kernel_rfl) (fun _ _ _ h => h) (Or.inl ⟨by rfl, ?_⟩) ?_ ?_
                          rotate_left
                          · intro w'
                            go_simp
                            with_reducible rfl
                          rotate_left
                          · simp only [Act.put, List.setIfInBounds_toArray, List.set_cons_zero, List.set_cons_succ, i64_w, i32_w]
                            rfl
                          refine done_ (by kernel_rfl) ?_
                          clear hlez hHeld
                          have y0 := (blk_cell F132_.out 0).trans rfl
                          have y1 := (blk_cell F132_.out 1).trans rfl
                          have y2 := (blk_cell F132_.out 2).trans rfl
                          have y3 := (blk_cell F132_.out 3).trans rfl
                          have z0 := (blk_cell F130_.out 0).trans rfl
                          have z1 := (blk_cell F130_.out 1).trans rfl
                          have z2 := (blk_cell F130_.out 2).trans rfl
                          have z3 := (blk_cell F130_.out 3).trans rfl
                          have zf0 := blk_frozen F130_.out 0
                          have zf1 := blk_frozen F130_.out 1
                          have zf2 := blk_frozen F130_.out 2
                          have zf3 := blk_frozen F130_.out 3
                          go_upto_region 17 with (fail)
                          clear y0 y1 y2 y3
                          clear z0 z1 z2 z3
                          clear zf0 zf1 zf2 zf3
                          clear F132_
                          have F134_ := Aside0.mk (Below.setCell (p := ⟨b6, 3, none⟩) (Below.setCell (p := ⟨b6, 2, none⟩) (Below.setCell (p := ⟨b6, 1, none⟩) (Below.setCell (p := ⟨b6, 0, none⟩) F124_.out (Nat.le_of_lt HN.out.2.1) (.slice P9 Y1.s.length p9)) (Nat.le_of_lt HN.out.2.1) (.slice Q9 Y1.p.length q9)) (Nat.le_of_lt HN.out.2.1) (.int .i64 Y1.left)) (Nat.le_of_lt HN.out.2.1) (.bool Y1.st))
                          have F135_ := Aside0.mk (blk_far (blk_far (blk_far (blk_far F125_.out (p := ⟨b6, 0, none⟩) (by have := HN.out; simp; omega) (.slice P9 Y1.s.length p9)) (p := ⟨b6, 1, none⟩) (by have := HN.out; simp; omega) (.slice Q9 Y1.p.length q9)) (p := ⟨b6, 2, none⟩) (by have := HN.out; simp; omega) (.int .i64 Y1.left)) (p := ⟨b6, 3, none⟩) (by have := HN.out; simp; omega) (.bool Y1.st))
                          have F136_ := Aside0.mk (DiskF.far (DiskF.far (DiskF.far (DiskF.far F126_.out (p := ⟨b6, 0, none⟩) (fun k_ hk_ => by have := HN.out; dsimp only at hk_ ⊢; omega) (.slice P9 Y1.s.length p9)) (p := ⟨b6, 1, none⟩) (fun k_ hk_ => by have := HN.out; dsimp only at hk_ ⊢; omega) (.slice Q9 Y1.p.length q9)) (p := ⟨b6, 2, none⟩) (fun k_ hk_ => by have := HN.out; dsimp only at hk_ ⊢; omega) (.int .i64 Y1.left)) (p := ⟨b6, 3, none⟩) (fun k_ hk_ => by have := HN.out; dsimp only at hk_ ⊢; omega) (.bool Y1.st))
                          have F137_ := Aside0.mk (Kd.F_far (Kd.F_far (Kd.F_far (Kd.F_far F127_.out (p := ⟨b6, 0, none⟩) (fun k_ hk_ => by have := HN.out; dsimp only at hk_ ⊢; omega) (.slice P9 Y1.s.length p9)) (p := ⟨b6, 1, none⟩) (fun k_ hk_ => by have := HN.out; dsimp only at hk_ ⊢; omega) (.slice Q9 Y1.p.length q9)) (p := ⟨b6, 2, none⟩) (fun k_ hk_ => by have := HN.out; dsimp only at hk_ ⊢; omega) (.int .i64 Y1.left)) (p := ⟨b6, 3, none⟩) (fun k_ hk_ => by have := HN.out; dsimp only at hk_ ⊢; omega) (.bool Y1.st))
                          have F138_ := Aside0.mk (blk_far (blk_far (blk_far (blk_far F128_.out (p := ⟨b6, 0, none⟩) (by have := HN.out; simp; omega) (.slice P9 Y1.s.length p9)) (p := ⟨b6, 1, none⟩) (by have := HN.out; simp; omega) (.slice Q9 Y1.p.length q9)) (p := ⟨b6, 2, none⟩) (by have := HN.out; simp; omega) (.int .i64 Y1.left)) (p := ⟨b6, 3, none⟩) (by have := HN.out; simp; omega) (.bool Y1.st))
                          have F139_ := Aside0.mk (DiskF.far (DiskF.far (DiskF.far (DiskF.far F133_.out (p := ⟨b6, 0, none⟩) (fun k_ hk_ => by dsimp only at hk_ ⊢; omega) (.slice P9 Y1.s.length p9)) (p := ⟨b6, 1, none⟩) (fun k_ hk_ => by dsimp only at hk_ ⊢; omega) (.slice Q9 Y1.p.length q9)) (p := ⟨b6, 2, none⟩) (fun k_ hk_ => by dsimp only at hk_ ⊢; omega) (.int .i64 Y1.left)) (p := ⟨b6, 3, none⟩) (fun k_ hk_ => by dsimp only at hk_ ⊢; omega) (.bool Y1.st))
                          have F140_ := Aside0.mk (show ((((w12.setCell ⟨b6, 0, none⟩ (.slice P9 Y1.s.length p9)).setCell ⟨b6, 1, none⟩ (.slice Q9 Y1.p.length q9)).setCell ⟨b6, 2, none⟩ (.int .i64 Y1.left)).setCell ⟨b6, 3, none⟩ (.bool Y1.st)).heap[b6]? = some (.cells #[.slice P9 Y1.s.length p9, .slice Q9 Y1.p.length q9, .int .i64 Y1.left, .bool Y1.st] 25 (0, 0)) from (blk_set (blk_set (blk_set (blk_set F130_.out 0 (.slice P9 Y1.s.length p9)) 1 (.slice Q9 Y1.p.length q9)) 2 (.int .i64 Y1.left)) 3 (.bool Y1.st)))
                          have F141_ := Aside0.mk (DiskF.far (DiskF.far (DiskF.far (DiskF.far F131_.out (p := ⟨b6, 0, none⟩) (fun k_ hk_ => by dsimp only at hk_ ⊢; omega) (.slice P9 Y1.s.length p9)) (p := ⟨b6, 1, none⟩) (fun k_ hk_ => by dsimp only at hk_ ⊢; omega) (.slice Q9 Y1.p.length q9)) (p := ⟨b6, 2, none⟩) (fun k_ hk_ => by dsimp only at hk_ ⊢; omega) (.int .i64 Y1.left)) (p := ⟨b6, 3, none⟩) (fun k_ hk_ => by dsimp only at hk_ ⊢; omega) (.bool Y1.st))
                          clear F124_ F125_ F126_ F127_ F128_ F133_ F130_ F131_
                          generalize ((((w12.setCell ⟨b6, 0, none⟩ (.slice P9 Y1.s.length p9)).setCell ⟨b6, 1, none⟩ (.slice Q9 Y1.p.length q9)).setCell ⟨b6, 2, none⟩ (.int .i64 Y1.left)).setCell ⟨b6, 3, none⟩ (.bool Y1.st)) = w13 at *
                          have F142_ := Aside0.mk (DiskF.mono (ok' := fun k => k ≠ b5 ∧ k ≠ b6) F141_.out (fun k hk => hk.1))
                          clear F141_
                          have hw := Aside0.mk (show wrap64 ((k : Int) + 1) = ((k + 1 : Nat) : Int) by have := HLM.out; unfold wrap64; omega)
                          go_wp2
                          go_roundg (gk - 1)
                          case measure => have := HI.out; omega
                          have hY2 := hY1.out
                          subst hY2
                          case rel => exact ⟨k + 1, P9, p9, Q9, q9, by rw [hw.out], ⟨by have := HI.out; omega⟩, ⟨F134_.out⟩, ⟨F135_.out⟩, ⟨F136_.out⟩, ⟨F137_.out⟩, ⟨F138_.out⟩, ⟨F139_.out⟩, ⟨F140_.out⟩, ⟨F142_.out⟩⟩
                        · skip
                          have hi0 : decide (k < l.length) = false := decide_eq_false hi
                          have hk : k = l.length := by have := HI.out; omega
                          have HS := Aside0.mk (show syncD (togY d l k) = (X, E) from by rw [hk]; exact HXE.out.symm)
                          clear hk hi
                          obtain ⟨Y, hY⟩ : ∃ Y, togY d l k = Y := ⟨_, rfl⟩
                          rw [hY] at HS Gb6 Gy
                          clear hY
                          have y0 := (blk_cell Gb6.out 0).trans rfl
                          have y1 := (blk_cell Gb6.out 1).trans rfl
                          have y2 := (blk_cell Gb6.out 2).trans rfl
                          have y3 := (blk_cell Gb6.out 3).trans rfl
                          have HLT := Aside0.mk (And.intro (blk_lt Gb5.out) (blk_lt Gb6.out))
                          have hee : (E == E) = true := beq_self_eq_true E
                          go_upto_region 23 with (go_at_call 30; (refine ((syncF_says (fun k => k ≠ b5 ∧ k ≠ b6) _ _ _ Gy.out).mono (fun e w' h => DEF.of h HS.out)).mono ?_); rintro e w13 ⟨⟨P7, p7, Q7, q7, rfl, hd⟩, hb⟩; have F143_ := Aside0.mk (below_step GB.out hb); have F144_ := Aside0.mk (blk_below Gb2.out hb); have F145_ := Aside0.mk (DiskF.below Gd.out hb); have F146_ := Aside0.mk (Kd.F_below Gl.out hb); have F147_ := Aside0.mk (blk_below Gb5.out hb); have F148_ := Aside0.mk (DiskF.below Gx.out hb); have F149_ := Aside0.mk (blk_below Gb6.out hb); have F150_ := Aside0.mk (DiskF.below Gy.out hb); clear GB Gb2 Gd Gl Gb5 Gx Gb6 Gy; have F151_ := Aside0.mk (DiskF.mono (ok' := fun k => k ≠ b5 ∧ k ≠ b6) hd (fun k hk => by have := HLT.out; (try dsimp only at hk); (try dsimp only); omega)); clear hd hb y0 y1 y2 y3; have z0 := (blk_cell F149_.out 0).trans rfl; have z1 := (blk_cell F149_.out 1).trans rfl; have z2 := (blk_cell F149_.out 2).trans rfl; have z3 := (blk_cell F149_.out 3).trans rfl; have zf0 := blk_frozen F149_.out 0; have zf1 := blk_frozen F149_.out 1; have zf2 := blk_frozen F149_.out 2; have zf3 := blk_frozen F149_.out 3)
                          clear z0 z1 z2 z3
                          clear zf0 zf1 zf2 zf3
                          clear F150_
                          have F152_ := Aside0.mk (Below.setCell (p := ⟨b6, 3, none⟩) (Below.setCell (p := ⟨b6, 2, none⟩) (Below.setCell (p := ⟨b6, 1, none⟩) (Below.setCell (p := ⟨b6, 0, none⟩) F143_.out (Nat.le_of_lt HN.out.2.1) (.slice P7 X.s.length p7)) (Nat.le_of_lt HN.out.2.1) (.slice Q7 X.p.length q7)) (Nat.le_of_lt HN.out.2.1) (.int .i64 X.left)) (Nat.le_of_lt HN.out.2.1) (.bool X.st))
                          have F153_ := Aside0.mk (blk_far (blk_far (blk_far (blk_far F144_.out (p := ⟨b6, 0, none⟩) (by have := HN.out; simp; omega) (.slice P7 X.s.length p7)) (p := ⟨b6, 1, none⟩) (by have := HN.out; simp; omega) (.slice Q7 X.p.length q7)) (p := ⟨b6, 2, none⟩) (by have := HN.out; simp; omega) (.int .i64 X.left)) (p := ⟨b6, 3, none⟩) (by have := HN.out; simp; omega) (.bool X.st))
                          have F154_ := Aside0.mk (DiskF.far (DiskF.far (DiskF.far (DiskF.far F145_.out (p := ⟨b6, 0, none⟩) (fun k_ hk_ => by have := HN.out; dsimp only at hk_ ⊢; omega) (.slice P7 X.s.length p7)) (p := ⟨b6, 1, none⟩) (fun k_ hk_ => by have := HN.out; dsimp only at hk_ ⊢; omega) (.slice Q7 X.p.length q7)) (p := ⟨b6, 2, none⟩) (fun k_ hk_ => by have := HN.out; dsimp only at hk_ ⊢; omega) (.int .i64 X.left)) (p := ⟨b6, 3, none⟩) (fun k_ hk_ => by have := HN.out; dsimp only at hk_ ⊢; omega) (.bool X.st))
                          have F155_ := Aside0.mk (Kd.F_far (Kd.F_far (Kd.F_far (Kd.F_far F146_.out (p := ⟨b6, 0, none⟩) (fun k_ hk_ => by have := HN.out; dsimp only at hk_ ⊢; omega) (.slice P7 X.s.length p7)) (p := ⟨b6, 1, none⟩) (fun k_ hk_ => by have := HN.out; dsimp only at hk_ ⊢; omega) (.slice Q7 X.p.length q7)) (p := ⟨b6, 2, none⟩) (fun k_ hk_ => by have := HN.out; dsimp only at hk_ ⊢; omega) (.int .i64 X.left)) (p := ⟨b6, 3, none⟩) (fun k_ hk_ => by have := HN.out; dsimp only at hk_ ⊢; omega) (.bool X.st))
                          have F156_ := Aside0.mk (blk_far (blk_far (blk_far (blk_far F147_.out (p := ⟨b6, 0, none⟩) (by have := HN.out; simp; omega) (.slice P7 X.s.length p7)) (p := ⟨b6, 1, none⟩) (by have := HN.out; simp; omega) (.slice Q7 X.p.length q7)) (p := ⟨b6, 2, none⟩) (by have := HN.out; simp; omega) (.int .i64 X.left)) (p := ⟨b6, 3, none⟩) (by have := HN.out; simp; omega) (.bool X.st))
                          have F157_ := Aside0.mk (DiskF.far (DiskF.far (DiskF.far (DiskF.far F148_.out (p := ⟨b6, 0, none⟩) (fun k_ hk_ => by dsimp only at hk_ ⊢; omega) (.slice P7 X.s.length p7)) (p := ⟨b6, 1, none⟩) (fun k_ hk_ => by dsimp only at hk_ ⊢; omega) (.slice Q7 X.p.length q7)) (p := ⟨b6, 2, none⟩) (fun k_ hk_ => by dsimp only at hk_ ⊢; omega) (.int .i64 X.left)) (p := ⟨b6, 3, none⟩) (fun k_ hk_ => by dsimp only at hk_ ⊢; omega) (.bool X.st))
                          have F158_ := Aside0.mk (show ((((w13.setCell ⟨b6, 0, none⟩ (.slice P7 X.s.length p7)).setCell ⟨b6, 1, none⟩ (.slice Q7 X.p.length q7)).setCell ⟨b6, 2, none⟩ (.int .i64 X.left)).setCell ⟨b6, 3, none⟩ (.bool X.st)).heap[b6]? = some (.cells #[.slice P7 X.s.length p7, .slice Q7 X.p.length q7, .int .i64 X.left, .bool X.st] 25 (0, 0)) from (blk_set (blk_set (blk_set (blk_set F149_.out 0 (.slice P7 X.s.length p7)) 1 (.slice Q7 X.p.length q7)) 2 (.int .i64 X.left)) 3 (.bool X.st)))
                          have F159_ := Aside0.mk (DiskF.far (DiskF.far (DiskF.far (DiskF.far F151_.out (p := ⟨b6, 0, none⟩) (fun k_ hk_ => by dsimp only at hk_ ⊢; omega) (.slice P7 X.s.length p7)) (p := ⟨b6, 1, none⟩) (fun k_ hk_ => by dsimp only at hk_ ⊢; omega) (.slice Q7 X.p.length q7)) (p := ⟨b6, 2, none⟩) (fun k_ hk_ => by dsimp only at hk_ ⊢; omega) (.int .i64 X.left)) (p := ⟨b6, 3, none⟩) (fun k_ hk_ => by dsimp only at hk_ ⊢; omega) (.bool X.st))
                          clear F143_ F144_ F145_ F146_ F147_ F148_ F149_ F151_
                          generalize ((((w13.setCell ⟨b6, 0, none⟩ (.slice P7 X.s.length p7)).setCell ⟨b6, 1, none⟩ (.slice Q7 X.p.length q7)).setCell ⟨b6, 2, none⟩ (.int .i64 X.left)).setCell ⟨b6, 3, none⟩ (.bool X.st)) = w14 at *
                          have y0 := (blk_cell F156_.out 0).trans rfl
                          have y1 := (blk_cell F156_.out 1).trans rfl
                          have y2 := (blk_cell F156_.out 2).trans rfl
                          have y3 := (blk_cell F156_.out 3).trans rfl
                          have z0 := (blk_cell F158_.out 0).trans rfl
                          have z1 := (blk_cell F158_.out 1).trans rfl
                          have z2 := (blk_cell F158_.out 2).trans rfl
                          have z3 := (blk_cell F158_.out 3).trans rfl
                          go_wp2_with ((with_reducible refine gate_callee (f := 21) rfl ?_); refine goesG_ (some 129) rfl (by rfl) Try.func21 (by kernel_rfl) rfl #[(.agg #[.slice P5 X.s.length p5, .slice Q5 X.p.length q5, .int .i64 X.left, .bool X.st]), (.agg #[.slice P7 X.s.length p7, .slice Q7 X.p.length q7, .int .i64 X.left, .bool X.st])] rfl (by (try simp only [List.map_toArray, List.map_cons, List.map_nil]); first | done | rfl) ?_; (refine (same_says _ _ X _ (DiskF.V F157_.out) (DiskF.V F159_.out)).mono ?_); rintro e w15 ⟨rfl, hb⟩; refine ⟨_, rfl, ?_⟩; have F160_ := Aside0.mk (below_step F152_.out hb); have F161_ := Aside0.mk (blk_below F153_.out hb); have F162_ := Aside0.mk (DiskF.below F154_.out hb); have F163_ := Aside0.mk (Kd.F_below F155_.out hb); have F164_ := Aside0.mk (blk_below F156_.out hb); have F165_ := Aside0.mk (DiskF.below F157_.out hb); have F166_ := Aside0.mk (blk_below F158_.out hb); have F167_ := Aside0.mk (DiskF.below F159_.out hb); clear F152_ F153_ F154_ F155_ F156_ F157_ F158_ F159_; clear hb)
                          go_ret
                          exact ⟨rfl, F160_.out⟩
theorem together_says (v : Value) (d : Dk) (A1 : Option Addr) (c1 : Nat) (l : List S57) (w : World) (h : DiskV w v d) (h2 : k57.C w A1 l.length l) (hby : ∀ x ∈ l, 0 ≤ x.f1 ∧ x.f1 < 256) : Calls Try.prog 10 #[v, .slice A1 l.length c1] w fun e w' => e = .returned (.bool true) ∧ Below w.heap.size w w' := by
  have h3 := h
  obtain ⟨P0, p0, Q0, q0, rfl, -⟩ := h3
  exact together_walk P0 p0 Q0 q0 d A1 c1 l w h h2 hby
end Go.Proofs.Ytlnmjgkeiljniaa.Q
