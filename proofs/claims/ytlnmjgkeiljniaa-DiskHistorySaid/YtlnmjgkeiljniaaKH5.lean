/- The proof's texts, part 6 of 7. -/
import Derived.Test.YtlnmjgkeiljniaaKH4
set_option linter.unusedVariables false
set_option linter.unusedSimpArgs false
/- sizarlaw45.holds. -/
namespace Go.Proofs.Ytlnmjgkeiljniaa.Q
open Go.RowKit Go.Proofs.YtlnmjgkeiljniaaW.PrintWords Go.Proofs.YtlnmjgkeiljniaaW.PrintLast Go.Proofs.YtlnmjgkeiljniaaW.PrintMore
set_option linter.unusedVariables false
set_option linter.unusedSimpArgs false
set_option maxHeartbeats 8000000 in
set_option maxRecDepth 100000 in
theorem holds_says (v : Value) (d : Dk) (f0 f1 f2 f3 s0 s1 s2 s3 : Int) (w : World) (h : DiskV w v d) (hh : HoldsD d [f0, f1, f2, f3] [s0, s1, s2, s3]) : Calls Try.prog 43 #[v, .agg #[.int .u8 f0, .int .u8 f1, .int .u8 f2, .int .u8 f3], .agg #[.int .u8 s0, .int .u8 s1, .int .u8 s2, .int .u8 s3]] w fun e w' => e = .returned (.bool true) ∧ Below w.heap.size w w' := by
  have hd := h
  obtain ⟨P0, p0, Q0, q0, rfl, -⟩ := h
  have HH := Aside0.mk hh
  have hu25 := Try.underlying25
  have D0 := Aside0.mk (DiskV.F hd)
  have F1_ := Aside0.mk (Below.refl w.heap.size w)
  clear hd hh
  go_enter Try.func43, Try.ntmps43
  go_upto_region 1 with (fail)
  have F2_ := Aside0.mk (DiskF.below D0.out (below_alloc (Below.refl _ _) (.cells #[.slice P0 d.s.length p0, .slice Q0 d.p.length q0, .int .i64 d.left, .bool d.st] 25)))
  have F3_ := Aside0.mk (below_alloc F1_.out (.cells #[.slice P0 d.s.length p0, .slice Q0 d.p.length q0, .int .i64 d.left, .bool d.st] 25))
  clear D0 F1_
  have F4_ := Aside0.mk (blk_new w (.cells #[.slice P0 d.s.length p0, .slice Q0 d.p.length q0, .int .i64 d.left, .bool d.st] 25))
  have F5_ := Aside0.mk (DiskF.below F2_.out (below_alloc (Below.refl _ _) (.cells #[.int .u8 f0, .int .u8 f1, .int .u8 f2, .int .u8 f3] 55)))
  have F6_ := Aside0.mk (below_alloc F3_.out (.cells #[.int .u8 f0, .int .u8 f1, .int .u8 f2, .int .u8 f3] 55))
  have F7_ := Aside0.mk (blk_alloc F4_.out (.cells #[.int .u8 f0, .int .u8 f1, .int .u8 f2, .int .u8 f3] 55))
  clear F2_ F3_ F4_
  have F8_ := Aside0.mk (blk_new (w.alloc (.cells #[.slice P0 d.s.length p0, .slice Q0 d.p.length q0, .int .i64 d.left, .bool d.st] 25)) (.cells #[.int .u8 f0, .int .u8 f1, .int .u8 f2, .int .u8 f3] 55))
  have F9_ := Aside0.mk (DiskF.below F5_.out (below_alloc (Below.refl _ _) (.cells #[.int .u8 s0, .int .u8 s1, .int .u8 s2, .int .u8 s3] 55)))
  have F10_ := Aside0.mk (below_alloc F6_.out (.cells #[.int .u8 s0, .int .u8 s1, .int .u8 s2, .int .u8 s3] 55))
  have F11_ := Aside0.mk (blk_alloc F7_.out (.cells #[.int .u8 s0, .int .u8 s1, .int .u8 s2, .int .u8 s3] 55))
  have F12_ := Aside0.mk (blk_alloc F8_.out (.cells #[.int .u8 s0, .int .u8 s1, .int .u8 s2, .int .u8 s3] 55))
  clear F5_ F6_ F7_ F8_
  have F13_ := Aside0.mk (blk_new ((w.alloc (.cells #[.slice P0 d.s.length p0, .slice Q0 d.p.length q0, .int .i64 d.left, .bool d.st] 25)).alloc (.cells #[.int .u8 f0, .int .u8 f1, .int .u8 f2, .int .u8 f3] 55)) (.cells #[.int .u8 s0, .int .u8 s1, .int .u8 s2, .int .u8 s3] 55))
  simp only [World.size_alloc] at F12_ F13_
  generalize (((w.alloc (.cells #[.slice P0 d.s.length p0, .slice Q0 d.p.length q0, .int .i64 d.left, .bool d.st] 25)).alloc (.cells #[.int .u8 f0, .int .u8 f1, .int .u8 f2, .int .u8 f3] 55)).alloc (.cells #[.int .u8 s0, .int .u8 s1, .int .u8 s2, .int .u8 s3] 55)) = w1 at *
  go_wp2_with (fail)
  go_loopg [7] 4 (fun kq v7 w' => ∃ i : Nat, v7 = .int .i64 i ∧ Aside0 (i ≤ 4 ∧ kq + i = 4) ∧ Aside0 (Below w.heap.size w w') ∧ Aside0 (w'.heap[w.heap.size]? = some (.cells #[.slice P0 d.s.length p0, .slice Q0 d.p.length q0, .int .i64 d.left, .bool d.st] 25 (0, 0))) ∧ Aside0 (w'.heap[w.heap.size + 1]? = some (.cells #[.int .u8 f0, .int .u8 f1, .int .u8 f2, .int .u8 f3] 55 (0, 0))) ∧ Aside0 (w'.heap[w.heap.size + 1 + 1]? = some (.cells #[.int .u8 s0, .int .u8 s1, .int .u8 s2, .int .u8 s3] 55 (0, 0))) ∧ Aside0 (DiskF w' (fun k => k < w.heap.size) (.agg #[.slice P0 d.s.length p0, .slice Q0 d.p.length q0, .int .i64 d.left, .bool d.st]) d))
  case atStart => exact ⟨0, rfl, ⟨by omega⟩, ⟨F10_.out⟩, ⟨F11_.out⟩, ⟨F12_.out⟩, ⟨F13_.out⟩, ⟨F9_.out⟩⟩
  clear F10_ F11_ F12_ F13_ F9_
  obtain ⟨i, rfl, HI, GB, Gb3, Gb4, Gb5, Gd⟩ := hrel
  by_cases hi : i < 4
  · skip
    have hi0 : decide ((i : Int) < 4) = true := decide_eq_true (by omega)
    obtain ⟨b, hb0, hb1, hb2, hb3, hb4, hb5⟩ := HH.out i hi
    have HB0 := Aside0.mk hb0
    have HB1 := Aside0.mk hb1
    obtain ⟨x, hx⟩ : ∃ x, [f0, f1, f2, f3].getD i 0 = x := ⟨_, rfl⟩
    obtain ⟨y, hy⟩ : ∃ y, [s0, s1, s2, s3].getD i 0 = y := ⟨_, rfl⟩
    rw [hx] at hb2
    rw [hy] at hb3
    have HX := Aside0.mk (show ∀ W : World, W.heap[w.heap.size + 1]? = some (.cells #[.int .u8 f0, .int .u8 f1, .int .u8 f2, .int .u8 f3] 55 (0, 0)) → W.cell? ⟨w.heap.size + 1, i, none⟩ = some (.int .u8 x) from fun W hW => by rw [blk_cell hW i, ← hx]; rcases (show i = 0 ∨ i = 1 ∨ i = 2 ∨ i = 3 by omega) with rfl | rfl | rfl | rfl <;> rfl)
    have HY := Aside0.mk (show ∀ W : World, W.heap[w.heap.size + 1 + 1]? = some (.cells #[.int .u8 s0, .int .u8 s1, .int .u8 s2, .int .u8 s3] 55 (0, 0)) → W.cell? ⟨w.heap.size + 1 + 1, i, none⟩ = some (.int .u8 y) from fun W hW => by rw [blk_cell hW i, ← hy]; rcases (show i = 0 ∨ i = 1 ∨ i = 2 ∨ i = 3 by omega) with rfl | rfl | rfl | rfl <;> rfl)
    have HBB := Aside0.mk (And.intro hb2 (And.intro hb3 (And.intro hb4 hb5)))
    clear hb0 hb1 hb2 hb3 hb4 hb5 hx hy
    have y0 := (blk_cell Gb3.out 0).trans rfl
    have y1 := (blk_cell Gb3.out 1).trans rfl
    have y2 := (blk_cell Gb3.out 2).trans rfl
    have y3 := (blk_cell Gb3.out 3).trans rfl
    go_upto_region 5 with (go_at_call 28; (refine ((read_says _ d (i : Int) _ (DiskF.V Gd.out)).mono (fun e w' h => RE.of h HB0.out HB1.out)).mono ?_); rintro e w2 ⟨⟨A8, c8, rfl, hc8, hd⟩, hb⟩; have F14_ := Aside0.mk (below_step GB.out hb); have F15_ := Aside0.mk (blk_below Gb3.out hb); have F16_ := Aside0.mk (blk_below Gb4.out hb); have F17_ := Aside0.mk (blk_below Gb5.out hb); have F18_ := Aside0.mk (DiskF.below Gd.out hb); clear GB Gb3 Gb4 Gb5 Gd; clear hb hc8)
    clear y0 y1 y2 y3
    obtain ⟨ad, rfl, g0⟩ := byte_at hd 0 (by decide)
    have g64 := byte_get hd 64 (by decide)
    have g1 := byte_get hd 1 (by decide)
    have g127 := byte_get hd 127 (by decide)
    rw [HBB.out.1] at g0
    rw [HBB.out.2.1] at g64
    rw [HBB.out.2.2.1] at g1
    rw [HBB.out.2.2.2] at g127
    clear hd
    rw [show ad.add 0 = ad from by simp [Addr.add]] at g0
    have hiI : (i : Int) < 4 := by omega
    rw [show ad.add 64 = ⟨ad.block, ad.off + 64, none⟩ from by simp [Addr.add]] at g64
    rw [show ad.add 1 = ⟨ad.block, ad.off + 1, none⟩ from by simp [Addr.add]] at g1
    rw [show ad.add 127 = ⟨ad.block, ad.off + 127, none⟩ from by simp [Addr.add]] at g127
    replace g0 := Aside0.mk g0
    replace g64 := Aside0.mk g64
    replace g1 := Aside0.mk g1
    replace g127 := Aside0.mk g127
    refine start_ (n := 37) (S := fun w' => Below w2.drew.heap.size w2.drew w') (ds := []) #[false, false, false, false, false, false, false, false, false, false, false, false, false, false, false, false, false, false, false, false, false, false, false, false, false, false, false, false, false, false, false, false, false, false, false, false, false] (by kernel_rfl) rfl rfl (Below.refl _ _) (fun hHeld => ?_)
    have F19_ := Aside0.mk (below_drew1 F14_.out)
    have F20_ := Aside0.mk (blk_drew F15_.out)
    have F21_ := Aside0.mk (blk_drew F16_.out)
    have F22_ := Aside0.mk (blk_drew F17_.out)
    have F23_ := Aside0.mk (DiskF.below F18_.out (below_drew1 (Below.refl _ _)))
    have F24_ := Aside0.mk ((Below.cell (below_drew1 (Below.refl _ _)) (World.block_lt_of_cell? _ _ g0.out)).trans g0.out)
    have F25_ := Aside0.mk ((Below.cell (below_drew1 (Below.refl _ _)) (World.block_lt_of_cell? _ _ g64.out)).trans g64.out)
    have F26_ := Aside0.mk ((Below.cell (below_drew1 (Below.refl _ _)) (World.block_lt_of_cell? _ _ g1.out)).trans g1.out)
    have F27_ := Aside0.mk ((Below.cell (below_drew1 (Below.refl _ _)) (World.block_lt_of_cell? _ _ g127.out)).trans g127.out)
    clear F14_ F15_ F16_ F17_ F18_ g0 g64 g1 g127
    generalize w2.drew = w3 at *
    have hold_b4 := F21_.out
    have hold_b5 := F22_.out
    have hold_g0 := F24_.out
    have hold_g64 := F25_.out
    have hold_g1 := F26_.out
    have hold_g127 := F27_.out
    refine pure_ (i := 0) (N := some 20) (v := ?_) (a' := ?_) #[true, false, false, false, false, false, false, false, false, false, false, false, false, false, false, false, false, false, false, false, false, false, false, false, false, false, false, false, false, false, false, false, false, false, false, false, false] rfl rfl (by kernel_rfl) (fun _ _ _ h => h) (Or.inl ⟨by rfl, ?_⟩) ?_ ?_
    rotate_left
    · intro w'
      go_simp
      with_reducible rfl
    rotate_left
    · simp only [Act.put, List.setIfInBounds_toArray, List.set_cons_zero, List.set_cons_succ, i64_w, i32_w]
      rfl
    refine pure_ (i := 1) (N := some 21) (v := ?_) (a' := ?_) #[true, true, false, false, false, false, false, false, false, false, false, false, false, false, false, false, false, false, false, false, false, false, false, false, false, false, false, false, false, false, false, false, false, false, false, false, false] rfl rfl (by kernel_rfl) (fun _ _ _ h => h) (Or.inl ⟨by rfl, ?_⟩) ?_ ?_
    rotate_left
    · intro w'
      go_simp
      with_reducible rfl
    rotate_left
    · simp only [Act.put, List.setIfInBounds_toArray, List.set_cons_zero, List.set_cons_succ, i64_w, i32_w]
      rfl
    refine pure_ (i := 2) (N := some 22) (v := ?_) (a' := ?_) #[true, true, true, false, false, false, false, false, false, false, false, false, false, false, false, false, false, false, false, false, false, false, false, false, false, false, false, false, false, false, false, false, false, false, false, false, false] rfl rfl (by kernel_rfl) (fun _ _ _ h => h) (Or.inl ⟨by rfl, ?_⟩) ?_ ?_
    rotate_left
    · intro w'
      go_simp
      with_reducible rfl
    rotate_left
    · simp only [Act.put, List.setIfInBounds_toArray, List.set_cons_zero, List.set_cons_succ, i64_w, i32_w]
      rfl
    refine pure_ (i := 3) (N := some 23) (v := ?_) (a' := ?_) #[true, true, true, true, false, false, false, false, false, false, false, false, false, false, false, false, false, false, false, false, false, false, false, false, false, false, false, false, false, false, false, false, false, false, false, false, false] rfl rfl (by kernel_rfl) (fun _ _ _ h => h) (Or.inl ⟨by rfl, ?_⟩) ?_ ?_
    rotate_left
    · intro w'
      go_simp
      with_reducible rfl
    rotate_left
    · simp only [Act.put, List.setIfInBounds_toArray, List.set_cons_zero, List.set_cons_succ, i64_w, i32_w]
      rfl
    refine pure_ (i := 4) (N := some 24) (v := ?_) (a' := ?_) #[true, true, true, true, true, false, false, false, false, false, false, false, false, false, false, false, false, false, false, false, false, false, false, false, false, false, false, false, false, false, false, false, false, false, false, false, false] rfl rfl (by kernel_rfl) (fun _ _ _ h => h) (Or.inl ⟨by rfl, ?_⟩) ?_ ?_
    rotate_left
    · intro w'
      go_simp
      with_reducible rfl
    rotate_left
    · simp only [Act.put, List.setIfInBounds_toArray, List.set_cons_zero, List.set_cons_succ, i64_w, i32_w]
      rfl
    refine pure_ (i := 5) (N := some 25) (v := ?_) (a' := ?_) #[true, true, true, true, true, true, false, false, false, false, false, false, false, false, false, false, false, false, false, false, false, false, false, false, false, false, false, false, false, false, false, false, false, false, false, false, false] rfl rfl (by kernel_rfl) (fun _ _ _ h => h) (Or.inl ⟨by rfl, ?_⟩) ?_ ?_
    rotate_left
    · intro w'
      go_simp
      with_reducible rfl
    rotate_left
    · simp only [Act.put, List.setIfInBounds_toArray, List.set_cons_zero, List.set_cons_succ, i64_w, i32_w]
      rfl
    refine pure_ (i := 6) (N := some 26) (v := ?_) (a' := ?_) #[true, true, true, true, true, true, true, false, false, false, false, false, false, false, false, false, false, false, false, false, false, false, false, false, false, false, false, false, false, false, false, false, false, false, false, false, false] rfl rfl (by kernel_rfl) (fun _ _ _ h => h) (Or.inl ⟨by rfl, ?_⟩) ?_ ?_
    rotate_left
    · intro w'
      go_simp
      with_reducible rfl
    rotate_left
    · simp only [Act.put, List.setIfInBounds_toArray, List.set_cons_zero, List.set_cons_succ, i64_w, i32_w]
      rfl
    refine pure_ (i := 7) (N := some 27) (v := ?_) (a' := ?_) #[true, true, true, true, true, true, true, true, false, false, false, false, false, false, false, false, false, false, false, false, false, false, false, false, false, false, false, false, false, false, false, false, false, false, false, false, false] rfl rfl (by kernel_rfl) (fun _ _ _ h => h) (Or.inl ⟨by rfl, ?_⟩) ?_ ?_
    rotate_left
    · intro w'
      go_simp
      with_reducible rfl
    rotate_left
    · simp only [Act.put, List.setIfInBounds_toArray, List.set_cons_zero, List.set_cons_succ, i64_w, i32_w]
      rfl
    refine pure_ (i := 8) (N := some 28) (v := ?_) (a' := ?_) #[true, true, true, true, true, true, true, true, true, false, false, false, false, false, false, false, false, false, false, false, false, false, false, false, false, false, false, false, false, false, false, false, false, false, false, false, false] rfl rfl (by kernel_rfl) (fun _ _ _ h => h) (Or.inl ⟨by rfl, ?_⟩) ?_ ?_
    rotate_left
    · intro w'
      go_simp
      with_reducible rfl
    rotate_left
    · simp only [Act.put, List.setIfInBounds_toArray, List.set_cons_zero, List.set_cons_succ, i64_w, i32_w]
      rfl
    refine pure_ (i := 9) (N := some 29) (v := ?_) (a' := ?_) #[true, true, true, true, true, true, true, true, true, true, false, false, false, false, false, false, false, false, false, false, false, false, false, false, false, false, false, false, false, false, false, false, false, false, false, false, false] rfl rfl (by kernel_rfl) (fun _ _ _ h => h) (Or.inl ⟨by rfl, ?_⟩) ?_ ?_
    rotate_left
    · intro w'
      go_simp
      with_reducible rfl
    rotate_left
    · simp only [Act.put, List.setIfInBounds_toArray, List.set_cons_zero, List.set_cons_succ, i64_w, i32_w]
      rfl
    refine take_ (i := 10) (N := some 30) (v := ?_) (a' := ?_) #[true, true, true, true, true, true, true, true, true, true, true, false, false, false, false, false, false, false, false, false, false, false, false, false, false, false, false, false, false, false, false, false, false, false, false, false, false] rfl rfl (by kernel_rfl) (fun _ _ _ h => h) (Or.inl ⟨by rfl, ?_⟩) hHeld ?_ ?_
    rotate_left
    · rintro w' s0
      have q0 := (Below.cell s0 (World.block_lt_of_cell? _ _ hold_g0)).trans hold_g0
      go_simp
      with_reducible rfl
    rotate_left
    · simp only [Act.put, List.setIfInBounds_toArray, List.set_cons_zero, List.set_cons_succ, i64_w, i32_w]
      rfl
    refine pure_ (i := 11) (N := some 31) (v := ?_) (a' := ?_) #[true, true, true, true, true, true, true, true, true, true, true, true, false, false, false, false, false, false, false, false, false, false, false, false, false, false, false, false, false, false, false, false, false, false, false, false, false] rfl rfl (by kernel_rfl) (fun _ _ _ h => h) (Or.inl ⟨by rfl, ?_⟩) ?_ ?_
    rotate_left
    · intro w'
      go_simp
      with_reducible rfl
    rotate_left
    · simp only [Act.put, List.setIfInBounds_toArray, List.set_cons_zero, List.set_cons_succ, i64_w, i32_w]
      rfl
    refine pure_ (i := 12) (N := some 32) (v := ?_) (a' := ?_) #[true, true, true, true, true, true, true, true, true, true, true, true, true, false, false, false, false, false, false, false, false, false, false, false, false, false, false, false, false, false, false, false, false, false, false, false, false] rfl rfl (by kernel_rfl) (fun _ _ _ h => h) (Or.inl ⟨by rfl, ?_⟩) ?_ ?_
    rotate_left
    · intro w'
      go_simp
      with_reducible rfl
    rotate_left
    · simp only [Act.put, List.setIfInBounds_toArray, List.set_cons_zero, List.set_cons_succ, i64_w, i32_w]
      rfl
    refine take_ (i := 13) (N := some 33) (v := ?_) (a' := ?_) #[true, true, true, true, true, true, true, true, true, true, true, true, true, true, false, false, false, false, false, false, false, false, false, false, false, false, false, false, false, false, false, false, false, false, false, false, false] rfl rfl (by kernel_rfl) (fun _ _ _ h => h) (Or.inl ⟨by rfl, ?_⟩) hHeld ?_ ?_
    rotate_left
    · rintro w' s0
      have q0 := HX.out _ (blk_below hold_b4 s0)
      go_simp
      with_reducible rfl
    rotate_left
    · simp only [Act.put, List.setIfInBounds_toArray, List.set_cons_zero, List.set_cons_succ, i64_w, i32_w]
      rfl
    refine pure_ (i := 14) (N := some 34) (v := ?_) (a' := ?_) #[true, true, true, true, true, true, true, true, true, true, true, true, true, true, true, false, false, false, false, false, false, false, false, false, false, false, false, false, false, false, false, false, false, false, false, false, false] rfl rfl (by kernel_rfl) (fun _ _ _ h => h) (Or.inl ⟨by rfl, ?_⟩) ?_ ?_
    rotate_left
    · intro w'
      go_simp
      with_reducible rfl
    rotate_left
    · simp only [Act.put, List.setIfInBounds_toArray, List.set_cons_zero, List.set_cons_succ, i64_w, i32_w]
      rfl
    refine pure_ (i := 15) (N := some 35) (v := ?_) (a' := ?_) #[true, true, true, true, true, true, true, true, true, true, true, true, true, true, true, true, false, false, false, false, false, false, false, false, false, false, false, false, false, false, false, false, false, false, false, false, false] rfl rfl (by kernel_rfl) (fun _ _ _ h => h) (Or.inl ⟨by rfl, ?_⟩) ?_ ?_
    rotate_left
    · intro w'
      go_simp
      with_reducible rfl
    rotate_left
    · simp only [Act.put, List.setIfInBounds_toArray, List.set_cons_zero, List.set_cons_succ, i64_w, i32_w]
      rfl
    refine pure_ (i := 16) (N := some 36) (v := ?_) (a' := ?_) #[true, true, true, true, true, true, true, true, true, true, true, true, true, true, true, true, true, false, false, false, false, false, false, false, false, false, false, false, false, false, false, false, false, false, false, false, false] rfl rfl (by kernel_rfl) (fun _ _ _ h => h) (Or.inl ⟨by rfl, ?_⟩) ?_ ?_
    rotate_left
    · intro w'
      go_simp
      with_reducible rfl
    rotate_left
    · simp only [Act.put, List.setIfInBounds_toArray, List.set_cons_zero, List.set_cons_succ, i64_w, i32_w]
      rfl
    refine pure_ (i := 17) (N := some 37) (v := ?_) (a' := ?_) #[true, true, true, true, true, true, true, true, true, true, true, true, true, true, true, true, true, true, false, false, false, false, false, false, false, false, false, false, false, false, false, false, false, false, false, false, false] rfl rfl (by kernel_rfl) (fun _ _ _ h => h) (Or.inl ⟨by rfl, ?_⟩) ?_ ?_
    rotate_left
    · intro w'
      go_simp
      with_reducible rfl
    rotate_left
    · simp only [Act.put, List.setIfInBounds_toArray, List.set_cons_zero, List.set_cons_succ, i64_w, i32_w]
      rfl
    refine pure_ (i := 18) (N := some 38) (v := ?_) (a' := ?_) #[true, true, true, true, true, true, true, true, true, true, true, true, true, true, true, true, true, true, true, false, false, false, false, false, false, false, false, false, false, false, false, false, false, false, false, false, false] rfl rfl (by kernel_rfl) (fun _ _ _ h => h) (Or.inl ⟨by rfl, ?_⟩) ?_ ?_
    rotate_left
    · intro w'
      go_simp
      with_reducible rfl
    rotate_left
    · simp only [Act.put, List.setIfInBounds_toArray, List.set_cons_zero, List.set_cons_succ, i64_w, i32_w]
      rfl
    refine take_ (i := 19) (N := some 39) (v := ?_) (a' := ?_) #[true, true, true, true, true, true, true, true, true, true, true, true, true, true, true, true, true, true, true, true, false, false, false, false, false, false, false, false, false, false, false, false, false, false, false, false, false] rfl rfl (by kernel_rfl) (fun _ _ _ h => h) (Or.inl ⟨by rfl, ?_⟩) hHeld ?_ ?_
    rotate_left
    · rintro w' s0
      have q0 := (Below.cell s0 (World.block_lt_of_cell? _ _ hold_g64)).trans hold_g64
      go_simp
      with_reducible rfl
    rotate_left
    · simp only [Act.put, List.setIfInBounds_toArray, List.set_cons_zero, List.set_cons_succ, i64_w, i32_w]
      rfl
    refine pure_ (i := 20) (N := some 40) (v := ?_) (a' := ?_) #[true, true, true, true, true, true, true, true, true, true, true, true, true, true, true, true, true, true, true, true, true, false, false, false, false, false, false, false, false, false, false, false, false, false, false, false, false] rfl rfl (by kernel_rfl) (fun _ _ _ h => h) (Or.inl ⟨by rfl, ?_⟩) ?_ ?_
    rotate_left
    · intro w'
      go_simp
      with_reducible rfl
    rotate_left
    · simp only [Act.put, List.setIfInBounds_toArray, List.set_cons_zero, List.set_cons_succ, i64_w, i32_w]
      rfl
    refine pure_ (i := 21) (N := some 41) (v := ?_) (a' := ?_) #[true, true, true, true, true, true, true, true, true, true, true, true, true, true, true, true, true, true, true, true, true, true, false, false, false, false, false, false, false, false, false, false, false, false, false, false, false] rfl rfl (by kernel_rfl) (fun _ _ _ h => h) (Or.inl ⟨by rfl, ?_⟩) ?_ ?_
    rotate_left
    · intro w'
      go_simp
      with_reducible rfl
    rotate_left
    · simp only [Act.put, List.setIfInBounds_toArray, List.set_cons_zero, List.set_cons_succ, i64_w, i32_w]
      rfl
    refine take_ (i := 22) (N := some 42) (v := ?_) (a' := ?_) #[true, true, true, true, true, true, true, true, true, true, true, true, true, true, true, true, true, true, true, true, true, true, true, false, false, false, false, false, false, false, false, false, false, false, false, false, false] rfl rfl (by kernel_rfl) (fun _ _ _ h => h) (Or.inl ⟨by rfl, ?_⟩) hHeld ?_ ?_
    rotate_left
    · rintro w' s0
      have q0 := HY.out _ (blk_below hold_b5 s0)
      go_simp
      with_reducible rfl
    rotate_left
    · simp only [Act.put, List.setIfInBounds_toArray, List.set_cons_zero, List.set_cons_succ, i64_w, i32_w]
      rfl
    refine pure_ (i := 23) (N := some 43) (v := ?_) (a' := ?_) #[true, true, true, true, true, true, true, true, true, true, true, true, true, true, true, true, true, true, true, true, true, true, true, true, false, false, false, false, false, false, false, false, false, false, false, false, false] rfl rfl (by kernel_rfl) (fun _ _ _ h => h) (Or.inl ⟨by rfl, ?_⟩) ?_ ?_
    rotate_left
    · intro w'
      go_simp
      with_reducible rfl
    rotate_left
    · simp only [Act.put, List.setIfInBounds_toArray, List.set_cons_zero, List.set_cons_succ, i64_w, i32_w]
      rfl
    refine pure_ (i := 24) (N := some 44) (v := ?_) (a' := ?_) #[true, true, true, true, true, true, true, true, true, true, true, true, true, true, true, true, true, true, true, true, true, true, true, true, true, false, false, false, false, false, false, false, false, false, false, false, false] rfl rfl (by kernel_rfl) (fun _ _ _ h => h) (Or.inl ⟨by rfl, ?_⟩) ?_ ?_
    rotate_left
    · intro w'
      go_simp
      with_reducible rfl
    rotate_left
    · simp only [Act.put, List.setIfInBounds_toArray, List.set_cons_zero, List.set_cons_succ, i64_w, i32_w]
      rfl
    refine pure_ (i := 25) (N := some 45) (v := ?_) (a' := ?_) #[true, true, true, true, true, true, true, true, true, true, true, true, true, true, true, true, true, true, true, true, true, true, true, true, true, true, false, false, false, false, false, false, false, false, false, false, false] rfl rfl (by kernel_rfl) (fun _ _ _ h => h) (Or.inl ⟨by rfl, ?_⟩) ?_ ?_
    rotate_left
    · intro w'
      go_simp
      with_reducible rfl
    rotate_left
    · simp only [Act.put, List.setIfInBounds_toArray, List.set_cons_zero, List.set_cons_succ, i64_w, i32_w]
      rfl
    refine pure_ (i := 26) (N := some 46) (v := ?_) (a' := ?_) #[true, true, true, true, true, true, true, true, true, true, true, true, true, true, true, true, true, true, true, true, true, true, true, true, true, true, true, false, false, false, false, false, false, false, false, false, false] rfl rfl (by kernel_rfl) (fun _ _ _ h => h) (Or.inl ⟨by rfl, ?_⟩) ?_ ?_
    rotate_left
    · intro w'
      go_simp
      with_reducible rfl
    rotate_left
    · simp only [Act.put, List.setIfInBounds_toArray, List.set_cons_zero, List.set_cons_succ, i64_w, i32_w]
      rfl
    refine pure_ (i := 27) (N := some 47) (v := ?_) (a' := ?_) #[true, true, true, true, true, true, true, true, true, true, true, true, true, true, true, true, true, true, true, true, true, true, true, true, true, true, true, true, false, false, false, false, false, false, false, false, false] rfl rfl (by kernel_rfl) (fun _ _ _ h => h) (Or.inl ⟨by rfl, ?_⟩) ?_ ?_
    rotate_left
    · intro w'
      go_simp
      with_reducible rfl
    rotate_left
    · simp only [Act.put, List.setIfInBounds_toArray, List.set_cons_zero, List.set_cons_succ, i64_w, i32_w]
      rfl
    refine take_ (i := 28) (N := some 48) (v := ?_) (a' := ?_) #[true, true, true, true, true, true, true, true, true, true, true, true, true, true, true, true, true, true, true, true, true, true, true, true, true, true, true, true, true, false, false, false, false, false, false, false, false] rfl rfl (by kernel_rfl) (fun _ _ _ h => h) (Or.inl ⟨by rfl, ?_⟩) hHeld ?_ ?_
    rotate_left
    · rintro w' s0
      have q0 := (Below.cell s0 (World.block_lt_of_cell? _ _ hold_g1)).trans hold_g1
      go_simp
      with_reducible rfl
    rotate_left
    · simp only [Act.put, List.setIfInBounds_toArray, List.set_cons_zero, List.set_cons_succ, i64_w, i32_w]
      rfl
    refine pure_ (i := 29) (N := some 49) (v := ?_) (a' := ?_) #[true, true, true, true, true, true, true, true, true, true, true, true, true, true, true, true, true, true, true, true, true, true, true, true, true, true, true, true, true, true, false, false, false, false, false, false, false] rfl rfl (by kernel_rfl) (fun _ _ _ h => h) (Or.inl ⟨by rfl, ?_⟩) ?_ ?_
    rotate_left
    · intro w'
      go_simp
      with_reducible rfl
    rotate_left
    · simp only [Act.put, List.setIfInBounds_toArray, List.set_cons_zero, List.set_cons_succ, i64_w, i32_w]
      rfl
    refine pure_ (i := 30) (N := some 50) (v := ?_) (a' := ?_) #[true, true, true, true, true, true, true, true, true, true, true, true, true, true, true, true, true, true, true, true, true, true, true, true, true, true, true, true, true, true, true, false, false, false, false, false, false] rfl rfl (by kernel_rfl) (fun _ _ _ h => h) (Or.inl ⟨by rfl, ?_⟩) ?_ ?_
    rotate_left
    · intro w'
      go_simp
      with_reducible rfl
    rotate_left
    · simp only [Act.put, List.setIfInBounds_toArray, List.set_cons_zero, List.set_cons_succ, i64_w, i32_w]
      rfl
    refine pure_ (i := 31) (N := some 51) (v := ?_) (a' := ?_) #[true, true, true, true, true, true, true, true, true, true, true, true, true, true, true, true, true, true, true, true, true, true, true, true, true, true, true, true, true, true, true, true, false, false, false, false, false] rfl rfl (by kernel_rfl) (fun _ _ _ h => h) (Or.inl ⟨by rfl, ?_⟩) ?_ ?_
    rotate_left
    · intro w'
      go_simp
      with_reducible rfl
    rotate_left
    · simp only [Act.put, List.setIfInBounds_toArray, List.set_cons_zero, List.set_cons_succ, i64_w, i32_w]
      rfl
    refine pure_ (i := 32) (N := some 52) (v := ?_) (a' := ?_) #[true, true, true, true, true, true, true, true, true, true, true, true, true, true, true, true, true, true, true, true, true, true, true, true, true, true, true, true, true, true, true, true, true, false, false, false, false] rfl rfl (by kernel_rfl) (fun _ _ _ h => h) (Or.inl ⟨by rfl, ?_⟩) ?_ ?_
    rotate_left
    · intro w'
      go_simp
      with_reducible rfl
    rotate_left
    · simp only [Act.put, List.setIfInBounds_toArray, List.set_cons_zero, List.set_cons_succ, i64_w, i32_w]
      rfl
    refine pure_ (i := 33) (N := some 53) (v := ?_) (a' := ?_) #[true, true, true, true, true, true, true, true, true, true, true, true, true, true, true, true, true, true, true, true, true, true, true, true, true, true, true, true, true, true, true, true, true, true, false, false, false] rfl rfl (by kernel_rfl) (fun _ _ _ h => h) (Or.inl ⟨by rfl, ?_⟩) ?_ ?_
    rotate_left
    · intro w'
      go_simp
      with_reducible rfl
    rotate_left
    · simp only [Act.put, List.setIfInBounds_toArray, List.set_cons_zero, List.set_cons_succ, i64_w, i32_w]
      rfl
    refine take_ (i := 34) (N := some 54) (v := ?_) (a' := ?_) #[true, true, true, true, true, true, true, true, true, true, true, true, true, true, true, true, true, true, true, true, true, true, true, true, true, true, true, true, true, true, true, true, true, true, true, false, false] rfl rfl (by kernel_rfl) (fun _ _ _ h => h) (Or.inl ⟨by rfl, ?_⟩) hHeld ?_ ?_
    rotate_left
    · rintro w' s0
      have q0 := (Below.cell s0 (World.block_lt_of_cell? _ _ hold_g127)).trans hold_g127
      go_simp
      with_reducible rfl
    rotate_left
    · simp only [Act.put, List.setIfInBounds_toArray, List.set_cons_zero, List.set_cons_succ, i64_w, i32_w]
      rfl
    refine pure_ (i := 35) (N := some 55) (v := ?_) (a' := ?_) #[true, true, true, true, true, true, true, true, true, true, true, true, true, true, true, true, true, true, true, true, true, true, true, true, true, true, true, true, true, true, true, true, true, true, true, true, false] rfl rfl (by kernel_rfl) (fun _ _ _ h => h) (Or.inl ⟨by rfl, ?_⟩) ?_ ?_
    rotate_left
    · intro w'
      go_simp
      with_reducible rfl
    rotate_left
    · simp only [Act.put, List.setIfInBounds_toArray, List.set_cons_zero, List.set_cons_succ, i64_w, i32_w]
      rfl
    refine pure_ (i := 36) (N := some 56) (v := ?_) (a' := ?_) #[true, true, true, true, true, true, true, true, true, true, true, true, true, true, true, true, true, true, true, true, true, true, true, true, true, true, true, true, true, true, true, true, true, true, true, true, true] rfl rfl (by kernel_rfl) (fun _ _ _ h => h) (Or.inl ⟨by rfl, ?_⟩) ?_ ?_
    rotate_left
    · intro w'
      go_simp
      with_reducible rfl
    rotate_left
    · simp only [Act.put, List.setIfInBounds_toArray, List.set_cons_zero, List.set_cons_succ, i64_w, i32_w]
      rfl
    refine done_ (by kernel_rfl) ?_
    have hw := Aside0.mk (show wrap64 ((i : Int) + 1) = ((i + 1 : Nat) : Int) by have := HI.out; unfold wrap64; omega)
    clear F24_ F25_ F26_ F27_
    clear hold_b4 hold_b5 hold_g0 hold_g64 hold_g1 hold_g127
    go_wp2
    go_roundg (gk - 1)
    case measure => have := HI.out; omega
    case rel => exact ⟨i + 1, by first | rw [hw.out] | simp, ⟨by have := HI.out; omega⟩, ⟨F19_.out⟩, ⟨F20_.out⟩, ⟨F21_.out⟩, ⟨F22_.out⟩, ⟨F23_.out⟩⟩
  · skip
    have hi0 : decide ((i : Int) < 4) = false := decide_eq_false (by omega)
    go_wp2
    go_ret
    exact ⟨rfl, GB.out⟩
end Go.Proofs.Ytlnmjgkeiljniaa.Q
/- disk.Stop, with footprints. -/
namespace Go.Proofs.Ytlnmjgkeiljniaa.Q
open Go.RowKit Go.Proofs.YtlnmjgkeiljniaaW.PrintWords Go.Proofs.YtlnmjgkeiljniaaW.PrintLast Go.Proofs.YtlnmjgkeiljniaaW.PrintMore
set_option linter.unusedVariables false
set_option linter.unusedSimpArgs false
set_option maxHeartbeats 8000000 in
set_option maxRecDepth 100000 in
theorem stopF_says (okd : Nat → Prop) (v : Value) (d : Dk) (n : Int) (w : World) (h : DiskF w okd v d) : Calls Try.prog 32 #[v, .int .i64 n] w (DEndsF okd w (stopD d n)) := by
  have hd := h.V
  obtain ⟨A0, c0, A1, c1, rfl, h0, h1, hC0, hC1⟩ := h
  have B2 := Aside0.mk (below_alloc (below_alloc (Below.refl w.heap.size w) (.cells #[.slice A0 d.s.length c0, .slice A1 d.p.length c1, .int .i64 d.left, .bool d.st] 25)) (.cells #[.slice none 0 0, .slice none 0 0, .int .i64 0, .bool false] 25))
  have D2 := Aside0.mk (hd.below B2.out)
  have V1 := Aside0.mk (blk_alloc (blk_new w (.cells #[.slice A0 d.s.length c0, .slice A1 d.p.length c1, .int .i64 d.left, .bool d.st] 25)) (.cells #[.slice none 0 0, .slice none 0 0, .int .i64 0, .bool false] 25))
  have V2 := Aside0.mk (show ((w.alloc (.cells #[.slice A0 d.s.length c0, .slice A1 d.p.length c1, .int .i64 d.left, .bool d.st] 25)).alloc (.cells #[.slice none 0 0, .slice none 0 0, .int .i64 0, .bool false] 25)).heap[w.heap.size + 1]? = some (.cells #[.slice none 0 0, .slice none 0 0, .int .i64 0, .bool false] 25 (0, 0)) from by have h_ := blk_new (w.alloc (.cells #[.slice A0 d.s.length c0, .slice A1 d.p.length c1, .int .i64 d.left, .bool d.st] 25)) (.cells #[.slice none 0 0, .slice none 0 0, .int .i64 0, .bool false] 25); simpa using h_)
  have HC0 := Aside0.mk hC0
  have HC1 := Aside0.mk hC1
  have HL := Aside0.mk (And.intro h0 h1)
  have hu25 := Try.underlying25
  clear hd h0 h1 hC0 hC1
  cases h2 : runsD d with
  | false =>
    have HR := Aside0.mk h2
    have HE := Aside0.mk (show stopD d n = (zeroD, 450) from by unfold stopD; rw [h2]; rfl)
    clear h2
    go_enter Try.func32, Try.ntmps32
    go_wp2_with (go_at_call 57; (refine (runs_says _ d _ D2.out).mono ?_); rintro e w1 ⟨he, hb⟩; rw [HR.out] at he; obtain rfl := he; have B3 := Aside0.mk (below_step B2.out hb); have V3 := Aside0.mk (blk_below V1.out hb); have V4 := Aside0.mk (blk_below V2.out hb); have v1z0 := (blk_cell V3.out 0).trans rfl; have v1f0 := blk_frozen V3.out 0; have v1z1 := (blk_cell V3.out 1).trans rfl; have v1f1 := blk_frozen V3.out 1; have v1z2 := (blk_cell V3.out 2).trans rfl; have v1f2 := blk_frozen V3.out 2; have v1z3 := (blk_cell V3.out 3).trans rfl; have v1f3 := blk_frozen V3.out 3; have v2z0 := (blk_cell V4.out 0).trans rfl; have v2f0 := blk_frozen V4.out 0; have v2z1 := (blk_cell V4.out 1).trans rfl; have v2f1 := blk_frozen V4.out 1; have v2z2 := (blk_cell V4.out 2).trans rfl; have v2f2 := blk_frozen V4.out 2; have v2z3 := (blk_cell V4.out 3).trans rfl; have v2f3 := blk_frozen V4.out 3; clear hb)
    have E := (blk_set (blk_set (blk_set (blk_set V4.out 0 (.slice none 0 0)) 1 (.slice none 0 0)) 2 (.int .i64 0)) 3 (.bool false))
    refine bodyPost_ret (results_ct rfl _ _ (w.heap.size + 1) 25 #[.slice none 0 0, .slice none 0 0, .int .i64 0, .bool false] (0, 0) _ rfl E hu25 rfl info25') rfl ?_
    exact ⟨⟨_, by rw [HE.out]; rfl, by rw [HE.out]; exact diskF_zero _ _⟩, (Below.setCell (p := ⟨w.heap.size + 1, 3, none⟩) (Below.setCell (p := ⟨w.heap.size + 1, 2, none⟩) (Below.setCell (p := ⟨w.heap.size + 1, 1, none⟩) (Below.setCell (p := ⟨w.heap.size + 1, 0, none⟩) B3.out (by simp) (.slice none 0 0)) (by simp) (.slice none 0 0)) (by simp) (.int .i64 0)) (by simp) (.bool false))⟩
  | true =>
    have HR := Aside0.mk h2
    cases h3 : decide (n < 0) with
    | true =>
      have HE := Aside0.mk (show stopD d n = (zeroD, 1) from by unfold stopD; rw [h2, if_pos rfl, if_pos (.inl (of_decide_eq_true h3))])
      clear h2
      go_enter Try.func32, Try.ntmps32
      go_wp2_with (go_at_call 57; (refine (runs_says _ d _ D2.out).mono ?_); rintro e w1 ⟨he, hb⟩; rw [HR.out] at he; obtain rfl := he; have B3 := Aside0.mk (below_step B2.out hb); have V3 := Aside0.mk (blk_below V1.out hb); have V4 := Aside0.mk (blk_below V2.out hb); have v1z0 := (blk_cell V3.out 0).trans rfl; have v1f0 := blk_frozen V3.out 0; have v1z1 := (blk_cell V3.out 1).trans rfl; have v1f1 := blk_frozen V3.out 1; have v1z2 := (blk_cell V3.out 2).trans rfl; have v1f2 := blk_frozen V3.out 2; have v1z3 := (blk_cell V3.out 3).trans rfl; have v1f3 := blk_frozen V3.out 3; have v2z0 := (blk_cell V4.out 0).trans rfl; have v2f0 := blk_frozen V4.out 0; have v2z1 := (blk_cell V4.out 1).trans rfl; have v2f1 := blk_frozen V4.out 1; have v2z2 := (blk_cell V4.out 2).trans rfl; have v2f2 := blk_frozen V4.out 2; have v2z3 := (blk_cell V4.out 3).trans rfl; have v2f3 := blk_frozen V4.out 3; clear hb)
      skip
      have E := (blk_set (blk_set (blk_set (blk_set V4.out 0 (.slice none 0 0)) 1 (.slice none 0 0)) 2 (.int .i64 0)) 3 (.bool false))
      refine bodyPost_ret (results_ct rfl _ _ (w.heap.size + 1) 25 #[.slice none 0 0, .slice none 0 0, .int .i64 0, .bool false] (0, 0) _ rfl E hu25 rfl info25') rfl ?_
      exact ⟨⟨_, by rw [HE.out]; rfl, by rw [HE.out]; exact diskF_zero _ _⟩, (Below.setCell (p := ⟨w.heap.size + 1, 3, none⟩) (Below.setCell (p := ⟨w.heap.size + 1, 2, none⟩) (Below.setCell (p := ⟨w.heap.size + 1, 1, none⟩) (Below.setCell (p := ⟨w.heap.size + 1, 0, none⟩) B3.out (by simp) (.slice none 0 0)) (by simp) (.slice none 0 0)) (by simp) (.int .i64 0)) (by simp) (.bool false))⟩
    | false =>
      cases h4 : decide (65536 < n) with
      | true =>
        have HE := Aside0.mk (show stopD d n = (zeroD, 1) from by unfold stopD; rw [h2, if_pos rfl, if_pos (.inr (of_decide_eq_true h4))])
        clear h2
        go_enter Try.func32, Try.ntmps32
        go_wp2_with (go_at_call 57; (refine (runs_says _ d _ D2.out).mono ?_); rintro e w1 ⟨he, hb⟩; rw [HR.out] at he; obtain rfl := he; have B3 := Aside0.mk (below_step B2.out hb); have V3 := Aside0.mk (blk_below V1.out hb); have V4 := Aside0.mk (blk_below V2.out hb); have v1z0 := (blk_cell V3.out 0).trans rfl; have v1f0 := blk_frozen V3.out 0; have v1z1 := (blk_cell V3.out 1).trans rfl; have v1f1 := blk_frozen V3.out 1; have v1z2 := (blk_cell V3.out 2).trans rfl; have v1f2 := blk_frozen V3.out 2; have v1z3 := (blk_cell V3.out 3).trans rfl; have v1f3 := blk_frozen V3.out 3; have v2z0 := (blk_cell V4.out 0).trans rfl; have v2f0 := blk_frozen V4.out 0; have v2z1 := (blk_cell V4.out 1).trans rfl; have v2f1 := blk_frozen V4.out 1; have v2z2 := (blk_cell V4.out 2).trans rfl; have v2f2 := blk_frozen V4.out 2; have v2z3 := (blk_cell V4.out 3).trans rfl; have v2f3 := blk_frozen V4.out 3; clear hb)
        skip
        have E := (blk_set (blk_set (blk_set (blk_set V4.out 0 (.slice none 0 0)) 1 (.slice none 0 0)) 2 (.int .i64 0)) 3 (.bool false))
        refine bodyPost_ret (results_ct rfl _ _ (w.heap.size + 1) 25 #[.slice none 0 0, .slice none 0 0, .int .i64 0, .bool false] (0, 0) _ rfl E hu25 rfl info25') rfl ?_
        exact ⟨⟨_, by rw [HE.out]; rfl, by rw [HE.out]; exact diskF_zero _ _⟩, (Below.setCell (p := ⟨w.heap.size + 1, 3, none⟩) (Below.setCell (p := ⟨w.heap.size + 1, 2, none⟩) (Below.setCell (p := ⟨w.heap.size + 1, 1, none⟩) (Below.setCell (p := ⟨w.heap.size + 1, 0, none⟩) B3.out (by simp) (.slice none 0 0)) (by simp) (.slice none 0 0)) (by simp) (.int .i64 0)) (by simp) (.bool false))⟩
      | false =>
        have HE := Aside0.mk (show stopD d n = (⟨d.s, d.p, n, d.st⟩, 0) from by unfold stopD; rw [h2, if_pos rfl, if_neg (by have := of_decide_eq_false h3; have := of_decide_eq_false h4; omega)])
        clear h2
        go_enter Try.func32, Try.ntmps32
        go_wp2_with (go_at_call 57; (refine (runs_says _ d _ D2.out).mono ?_); rintro e w1 ⟨he, hb⟩; rw [HR.out] at he; obtain rfl := he; have B3 := Aside0.mk (below_step B2.out hb); have V3 := Aside0.mk (blk_below V1.out hb); have V4 := Aside0.mk (blk_below V2.out hb); have v1z0 := (blk_cell V3.out 0).trans rfl; have v1f0 := blk_frozen V3.out 0; have v1z1 := (blk_cell V3.out 1).trans rfl; have v1f1 := blk_frozen V3.out 1; have v1z2 := (blk_cell V3.out 2).trans rfl; have v1f2 := blk_frozen V3.out 2; have v1z3 := (blk_cell V3.out 3).trans rfl; have v1f3 := blk_frozen V3.out 3; have v2z0 := (blk_cell V4.out 0).trans rfl; have v2f0 := blk_frozen V4.out 0; have v2z1 := (blk_cell V4.out 1).trans rfl; have v2f1 := blk_frozen V4.out 1; have v2z2 := (blk_cell V4.out 2).trans rfl; have v2f2 := blk_frozen V4.out 2; have v2z3 := (blk_cell V4.out 3).trans rfl; have v2f3 := blk_frozen V4.out 3; clear hb)
        have E := (blk_set (blk_set (blk_set (blk_set (blk_far V4.out (p := ⟨w.heap.size, 2, none⟩) (by simp) (.int .i64 n)) 0 (.slice A0 d.s.length c0)) 1 (.slice A1 d.p.length c1)) 2 (.int .i64 n)) 3 (.bool d.st))
        have B4 := (Below.setCell (p := ⟨w.heap.size + 1, 3, none⟩) (Below.setCell (p := ⟨w.heap.size + 1, 2, none⟩) (Below.setCell (p := ⟨w.heap.size + 1, 1, none⟩) (Below.setCell (p := ⟨w.heap.size + 1, 0, none⟩) (Below.setCell (p := ⟨w.heap.size, 2, none⟩) B3.out (Nat.le_refl _) (.int .i64 n)) (by simp) (.slice A0 d.s.length c0)) (by simp) (.slice A1 d.p.length c1)) (by simp) (.int .i64 n)) (by simp) (.bool d.st))
        refine bodyPost_ret (results_ct rfl _ _ (w.heap.size + 1) 25 #[.slice A0 d.s.length c0, .slice A1 d.p.length c1, .int .i64 n, .bool d.st] (0, 0) _ rfl E hu25 rfl info25') rfl ?_
        exact ⟨⟨_, by rw [HE.out]; rfl, by rw [HE.out]; exact ⟨A0, c0, A1, c1, rfl, HL.out.1, HL.out.2, Kd.F_mono (Kd.F_below HC0.out B4) (fun k hk => .inl hk), Kd.F_mono (Kd.F_below HC1.out B4) (fun k hk => .inl hk)⟩⟩, B4⟩
end Go.Proofs.Ytlnmjgkeiljniaa.Q
/- DiskHistory: words of the walk. -/
namespace Go.Proofs.Ytlnmjgkeiljniaa.Q
open Go.RowKit Go.Proofs.YtlnmjgkeiljniaaW.PrintWords Go.Proofs.YtlnmjgkeiljniaaW.PrintLast Go.Proofs.YtlnmjgkeiljniaaW.PrintMore
set_option linter.unusedVariables false
set_option linter.unusedSimpArgs false
theorem info57 : (Try.prog.info? 57).map (fun i => (i.zero, i.size, i.bytes)) = some (some (.agg #[.bool false, .int .u8 0, .int .u8 0]), 3, 3) := by kernel_rfl
def hisZ : Dk := ⟨[0, 0, 0, 0].map dblD, [], -1, false⟩
def ok4 (b5 b8 b9 b10 : Nat) (k : Nat) : Prop := k ≠ b5 ∧ k ≠ b8 ∧ k ≠ b9 ∧ k ≠ b10
def okH (b5 b8 b9 b10 : Nat) (u : Value) (k : Nat) : Prop := ok4 b5 b8 b9 b10 k ∧ some k ≠ u.ownBlock
theorem ok4_fresh {b5 b8 b9 b10 n : Nat} (h : b5 < n ∧ b8 < n ∧ b9 < n ∧ b10 < n) (k : Nat) (hk : n ≤ k) : ok4 b5 b8 b9 b10 k := ⟨by omega, by omega, by omega, by omega⟩
theorem okH_fresh {b5 b8 b9 b10 : Nat} {W : World} {base : Nat} {ok : Nat → Prop} {u : Value} {wt : List S57} (h : b5 < W.heap.size ∧ b8 < W.heap.size ∧ b9 < W.heap.size ∧ b10 < W.heap.size) (hN : Kd.N k57 57 W base ok u wt) (k : Nat) (hk : W.heap.size ≤ k) : okH b5 b8 b9 b10 u k :=
  ⟨ok4_fresh h k hk, fun he => by have := Kd.N_lt hN k he.symm; omega⟩
/-- an array of bytes in a box -/
theorem arr_cell {W : World} {b : Nat} {l : List Int} (h : W.heap[b]? = some (.cells (nums .u8 l).toArray 55 (0, 0))) (j : Nat) (hj : j < l.length) : W.cell? ⟨b, j, none⟩ = some (.int .u8 (l.getD j 0)) := by
  rw [blk_cell h j]
  simp [nums, List.getD_eq_getElem?_getD, List.getElem?_eq_getElem hj]
theorem arr_set {W : World} {b : Nat} {l : List Int} (h : W.heap[b]? = some (.cells (nums .u8 l).toArray 55 (0, 0))) (j : Nat) (x : Int) : (W.setCell ⟨b, j, none⟩ (.int .u8 x)).heap[b]? = some (.cells (nums .u8 (l.set j x)).toArray 55 (0, 0)) := by
  rw [blk_set h j (.int .u8 x)]
  simp [nums, List.map_set]
theorem four {l : List Int} (h : l.length = 4) : [l.getD 0 0, l.getD 1 0, l.getD 2 0, l.getD 3 0] = l := by
  match l, h with
  | [a, b, c, d], _ => rfl
theorem DiskF.after {W W1 : World} {ok : Nat → Prop} {v : Value} {d : Dk} {u u1 : Value} (h : DiskF W (fun k => ok k ∧ some k ≠ u.ownBlock) v d) (hg : W.grownBy W1 u.ownBlock) (hat : u1.ownBlock = u.ownBlock ∨ ∃ b, u1.ownBlock = some b ∧ W.heap.size ≤ b) : DiskF W1 (fun k => ok k ∧ some k ≠ u1.ownBlock) v d := by
  obtain ⟨A0, c0, A1, c1, e, h1, h2, h3, h4⟩ := h
  exact ⟨A0, c0, A1, c1, e, h1, h2, Kd.F_after h3 hg hat, Kd.F_after h4 hg hat⟩
theorem box_grown {W W1 : World} {b t : Nat} {cs : Array Value} {base : Nat} {ok : Nat → Prop} {u : Value} {wt : List S57} (h : W.heap[b]? = some (.cells cs t (0, 0))) (hN : Kd.N k57 57 W base ok u wt) (ht : 57 ≠ t) (hg : W.grownBy W1 u.ownBlock) : W1.heap[b]? = some (.cells cs t (0, 0)) :=
  (hg.block b (blk_lt h) (Kd.N_ne hN h ht)).trans h
theorem wraps_u8 (m : Nat) (h : m < 256) : IntKind.u8.wrap (m : Int) = (m : Int) := by simp [IntKind.wrap, IntKind.bits, IntKind.signed]; omega
theorem rem4 {x : Int} (h0 : 0 ≤ x) (h1 : x < 256) : ∃ m : Nat, x % 4 = (m : Int) ∧ m < 4 ∧ x.tmod 4 = (m : Int) ∧ (x % 4).toNat = m := by
  refine ⟨(x % 4).toNat, by omega, by omega, ?_, rfl⟩
  rw [Int.tmod_eq_emod_of_nonneg h0]
  omega
theorem hold_says (v : Value) (d : Dk) (f s : List Int) (w : World) (hf : f.length = 4) (hs : s.length = 4) (hh : HoldsD d f s) (h : DiskV w v d) : Calls Try.prog 43 #[v, .agg #[.int .u8 (f.getD 0 0), .int .u8 (f.getD 1 0), .int .u8 (f.getD 2 0), .int .u8 (f.getD 3 0)], .agg #[.int .u8 (s.getD 0 0), .int .u8 (s.getD 1 0), .int .u8 (s.getD 2 0), .int .u8 (s.getD 3 0)]] w fun e w' => e = .returned (.bool true) ∧ Below w.heap.size w w' :=
  holds_says v d _ _ _ _ _ _ _ _ w h (by rw [four hf, four hs]; exact hh)
/-- an element of the row that waits -/
theorem wait_get {W : World} {base : Nat} {ok : Nat → Prop} {A : Option Addr} {c : Nat} {wt : List S57} (h : Kd.N k57 57 W base ok (.slice A wt.length c) wt) (i : Nat) (hi : i < wt.length) : ∃ ad, A = some ad ∧ W.cell? ⟨(ad.add (i * 3)).block, (ad.add (i * 3)).off + 1, none⟩ = some (.int .u8 (wt.getD i z57).f1) ∧ W.cell? ⟨(ad.add (i * 3)).block, (ad.add (i * 3)).off + 2, none⟩ = some (.int .u8 (wt.getD i z57).f2) := by
  obtain ⟨ad, e, _, h1, h2⟩ := at_T57 (Kd.F_now (Kd.N_F h)) (i : Int) (by omega) (by omega)
  have e1 : ((i : Int)).toNat = i := by omega
  have e2 : rd_T57 wt (i : Int) = wt.getD i z57 := by unfold rd_T57; rw [e1]
  rw [e1, e2] at h1 h2
  exact ⟨ad, e, h1, h2⟩
end Go.Proofs.Ytlnmjgkeiljniaa.Q
/- sizarlaw45.DiskHistory, walked. -/
namespace Go.Proofs.Ytlnmjgkeiljniaa.Q
open Go.RowKit Go.Proofs.YtlnmjgkeiljniaaW.PrintWords Go.Proofs.YtlnmjgkeiljniaaW.PrintLast Go.Proofs.YtlnmjgkeiljniaaW.PrintMore
set_option linter.unusedVariables false
set_option linter.unusedSimpArgs false
set_option maxHeartbeats 8000000 in
set_option maxRecDepth 100000 in
theorem history_says (A0 : Option Addr) (c0 : Nat) (l : List S57) (n : Nat) (w : World) (h : k57.C w A0 l.length l) (hby : ∀ x ∈ l, 0 ≤ x.f1 ∧ x.f1 < 256 ∧ 0 ≤ x.f2 ∧ x.f2 < 256) (hn1 : n < 256) : Calls Try.prog 7 #[.slice A0 l.length c0, .int .u8 n] w fun e w' => e = .returned (.bool true) ∧ Below w.heap.size w w' := by
  have hu25 := Try.underlying25
  have HBY := Aside0.mk hby
  have E0 := Aside0.mk h
  have HLM := Aside0.mk h.2.1
  have HZ := Aside0.mk (show newD 4 = (hisZ, 0) from his_new)
  have HST := Aside0.mk (show stopD hisZ n = (hisD [0, 0, 0, 0] [] n, 0) from his_start n (by omega) (by omega))
  have HNN := Aside0.mk hn1
  have F1_ := Aside0.mk (Below.refl w.heap.size w)
  clear h hby
  go_enter Try.func7, Try.ntmps7
  go_upto_region 3 with (go_at_call 17; (refine (sane_says _).mono ?_); rintro e w2 ⟨rfl, hb⟩; have F2_ := Aside0.mk (below_step F1_.out hb); clear F1_; clear hb)
  cases q40 : decide ((40 : Int) < (l.length : Int)) with
    | true =>
      go_wp2_with fail
      go_ret
      exact ⟨rfl, F2_.out⟩
    | false =>
      have HL40 := Aside0.mk (show l.length ≤ 40 by have := of_decide_eq_false q40; omega)
      go_upto_region 6 with (go_at_call 19; (refine ((new_says 4 _).mono (fun e w' h => DE.of h HZ.out)).mono ?_); rintro e w3 ⟨⟨P1, p1, Q1, q1, rfl, hd⟩, hb⟩; have F3_ := Aside0.mk (below_step F2_.out hb); clear F2_; have F4_ := Aside0.mk (DiskV.F hd); clear hd hb)
      have HB5 := Aside0.mk (Below.size F3_.out)
      have F5_ := Aside0.mk (below_alloc F3_.out (.cells #[.slice P1 hisZ.s.length p1, .slice Q1 hisZ.p.length q1, .int .i64 hisZ.left, .bool hisZ.st] 25))
      have F6_ := Aside0.mk (DiskF.below F4_.out (below_alloc (Below.refl _ _) (.cells #[.slice P1 hisZ.s.length p1, .slice Q1 hisZ.p.length q1, .int .i64 hisZ.left, .bool hisZ.st] 25)))
      clear F3_ F4_
      have F7_ := Aside0.mk (blk_new w3 (.cells #[.slice P1 hisZ.s.length p1, .slice Q1 hisZ.p.length q1, .int .i64 hisZ.left, .bool hisZ.st] 25))
      generalize w3.alloc (.cells #[.slice P1 hisZ.s.length p1, .slice Q1 hisZ.p.length q1, .int .i64 hisZ.left, .bool hisZ.st] 25) = w4 at *
      generalize w3.heap.size = b5 at *
      have y0 := (blk_cell F7_.out 0).trans rfl
      have y1 := (blk_cell F7_.out 1).trans rfl
      have y2 := (blk_cell F7_.out 2).trans rfl
      have y3 := (blk_cell F7_.out 3).trans rfl
      have HL5 := Aside0.mk (blk_lt F7_.out)
      go_upto_region 7 with (go_at_call 32; (refine ((stopF_says (fun k => k < b5) _ hisZ n _ F6_.out).mono (fun e w' h => DEF.of h HST.out)).mono ?_); rintro e w5 ⟨⟨P2, p2, Q2, q2, rfl, hd⟩, hb⟩; have F8_ := Aside0.mk (below_step F5_.out hb); have F9_ := Aside0.mk (DiskF.below F6_.out hb); have F10_ := Aside0.mk (blk_below F7_.out hb); clear F5_ F6_ F7_; clear F9_; have F11_ := Aside0.mk (DiskF.mono (ok' := fun k => k ≠ b5) hd (fun k hk => by have := HL5.out; (try dsimp only at hk); (try dsimp only); omega)); clear hd hb y0 y1 y2 y3; have z0 := (blk_cell F10_.out 0).trans rfl; have z1 := (blk_cell F10_.out 1).trans rfl; have z2 := (blk_cell F10_.out 2).trans rfl; have z3 := (blk_cell F10_.out 3).trans rfl; have zf0 := blk_frozen F10_.out 0; have zf1 := blk_frozen F10_.out 1; have zf2 := blk_frozen F10_.out 2; have zf3 := blk_frozen F10_.out 3)
      clear z0 z1 z2 z3
      clear zf0 zf1 zf2 zf3
      have F12_ := Aside0.mk (Below.setCell (p := ⟨b5, 3, none⟩) (Below.setCell (p := ⟨b5, 2, none⟩) (Below.setCell (p := ⟨b5, 1, none⟩) (Below.setCell (p := ⟨b5, 0, none⟩) F8_.out HB5.out (.slice P2 (hisD [0, 0, 0, 0] [] n).s.length p2)) HB5.out (.slice Q2 (hisD [0, 0, 0, 0] [] n).p.length q2)) HB5.out (.int .i64 (hisD [0, 0, 0, 0] [] n).left)) HB5.out (.bool (hisD [0, 0, 0, 0] [] n).st))
      have F13_ := Aside0.mk (show ((((w5.setCell ⟨b5, 0, none⟩ (.slice P2 (hisD [0, 0, 0, 0] [] n).s.length p2)).setCell ⟨b5, 1, none⟩ (.slice Q2 (hisD [0, 0, 0, 0] [] n).p.length q2)).setCell ⟨b5, 2, none⟩ (.int .i64 (hisD [0, 0, 0, 0] [] n).left)).setCell ⟨b5, 3, none⟩ (.bool (hisD [0, 0, 0, 0] [] n).st)).heap[b5]? = some (.cells #[.slice P2 (hisD [0, 0, 0, 0] [] n).s.length p2, .slice Q2 (hisD [0, 0, 0, 0] [] n).p.length q2, .int .i64 (hisD [0, 0, 0, 0] [] n).left, .bool (hisD [0, 0, 0, 0] [] n).st] 25 (0, 0)) from (blk_set (blk_set (blk_set (blk_set F10_.out 0 (.slice P2 (hisD [0, 0, 0, 0] [] n).s.length p2)) 1 (.slice Q2 (hisD [0, 0, 0, 0] [] n).p.length q2)) 2 (.int .i64 (hisD [0, 0, 0, 0] [] n).left)) 3 (.bool (hisD [0, 0, 0, 0] [] n).st)))
      have F14_ := Aside0.mk (DiskF.far (DiskF.far (DiskF.far (DiskF.far F11_.out (p := ⟨b5, 0, none⟩) (fun k hk => hk) (.slice P2 (hisD [0, 0, 0, 0] [] n).s.length p2)) (p := ⟨b5, 1, none⟩) (fun k hk => hk) (.slice Q2 (hisD [0, 0, 0, 0] [] n).p.length q2)) (p := ⟨b5, 2, none⟩) (fun k hk => hk) (.int .i64 (hisD [0, 0, 0, 0] [] n).left)) (p := ⟨b5, 3, none⟩) (fun k hk => hk) (.bool (hisD [0, 0, 0, 0] [] n).st))
      clear F8_ F10_ F11_
      generalize ((((w5.setCell ⟨b5, 0, none⟩ (.slice P2 (hisD [0, 0, 0, 0] [] n).s.length p2)).setCell ⟨b5, 1, none⟩ (.slice Q2 (hisD [0, 0, 0, 0] [] n).p.length q2)).setCell ⟨b5, 2, none⟩ (.int .i64 (hisD [0, 0, 0, 0] [] n).left)).setCell ⟨b5, 3, none⟩ (.bool (hisD [0, 0, 0, 0] [] n).st)) = w6 at *
      have F15_ := Aside0.mk (DiskF.bound F14_.out)
      clear F14_
      go_upto_block 0 with (fail)
      have HN := Aside0.mk (show w.heap.size ≤ b5 ∧ b5 < w6.heap.size ∧ w.heap.size ≤ w6.heap.size from ⟨HB5.out, blk_lt F13_.out, Below.size F12_.out⟩)
      have N0 := N_empty k57 57 (((w6.alloc (.cells #[.int .u8 0, .int .u8 0, .int .u8 0, .int .u8 0] 55)).alloc (.cells #[.int .u8 0, .int .u8 0, .int .u8 0, .int .u8 0] 55)).alloc (.cells #[.int .u8 0, .int .u8 0, .int .u8 0, .int .u8 0] 55)) w.heap.size (ok4 b5 w6.heap.size (w6.heap.size + 1) (w6.heap.size + 1 + 1)) (by have := HN.out; simp; omega) (by have := HN.out; simp only [World.size_alloc]; exact ⟨by omega, by omega, by omega, by omega⟩)
      have F16_ := Aside0.mk (below_alloc F12_.out (.cells #[.int .u8 0, .int .u8 0, .int .u8 0, .int .u8 0] 55))
      have F17_ := Aside0.mk (blk_alloc F13_.out (.cells #[.int .u8 0, .int .u8 0, .int .u8 0, .int .u8 0] 55))
      have F18_ := Aside0.mk (DiskF.below F15_.out (below_alloc (Below.refl _ _) (.cells #[.int .u8 0, .int .u8 0, .int .u8 0, .int .u8 0] 55)))
      clear F12_ F13_ F15_
      have F19_ := Aside0.mk (show (w6.alloc (.cells #[.int .u8 0, .int .u8 0, .int .u8 0, .int .u8 0] 55)).heap[w6.heap.size]? = some (.cells (nums .u8 [0, 0, 0, 0]).toArray 55 (0, 0)) from blk_new w6 (.cells #[.int .u8 0, .int .u8 0, .int .u8 0, .int .u8 0] 55))
      have F20_ := Aside0.mk (below_alloc F16_.out (.cells #[.int .u8 0, .int .u8 0, .int .u8 0, .int .u8 0] 55))
      have F21_ := Aside0.mk (blk_alloc F17_.out (.cells #[.int .u8 0, .int .u8 0, .int .u8 0, .int .u8 0] 55))
      have F22_ := Aside0.mk (DiskF.below F18_.out (below_alloc (Below.refl _ _) (.cells #[.int .u8 0, .int .u8 0, .int .u8 0, .int .u8 0] 55)))
      have F23_ := Aside0.mk (blk_alloc F19_.out (.cells #[.int .u8 0, .int .u8 0, .int .u8 0, .int .u8 0] 55))
      clear F16_ F17_ F18_ F19_
      have F24_ := Aside0.mk (show ((w6.alloc (.cells #[.int .u8 0, .int .u8 0, .int .u8 0, .int .u8 0] 55)).alloc (.cells #[.int .u8 0, .int .u8 0, .int .u8 0, .int .u8 0] 55)).heap[(w6.alloc (.cells #[.int .u8 0, .int .u8 0, .int .u8 0, .int .u8 0] 55)).heap.size]? = some (.cells (nums .u8 [0, 0, 0, 0]).toArray 55 (0, 0)) from blk_new (w6.alloc (.cells #[.int .u8 0, .int .u8 0, .int .u8 0, .int .u8 0] 55)) (.cells #[.int .u8 0, .int .u8 0, .int .u8 0, .int .u8 0] 55))
      have F25_ := Aside0.mk (below_alloc F20_.out (.cells #[.int .u8 0, .int .u8 0, .int .u8 0, .int .u8 0] 55))
      have F26_ := Aside0.mk (blk_alloc F21_.out (.cells #[.int .u8 0, .int .u8 0, .int .u8 0, .int .u8 0] 55))
      have F27_ := Aside0.mk (DiskF.below F22_.out (below_alloc (Below.refl _ _) (.cells #[.int .u8 0, .int .u8 0, .int .u8 0, .int .u8 0] 55)))
      have F28_ := Aside0.mk (blk_alloc F23_.out (.cells #[.int .u8 0, .int .u8 0, .int .u8 0, .int .u8 0] 55))
      have F29_ := Aside0.mk (blk_alloc F24_.out (.cells #[.int .u8 0, .int .u8 0, .int .u8 0, .int .u8 0] 55))
      clear F20_ F21_ F22_ F23_ F24_
      have F30_ := Aside0.mk (show (((w6.alloc (.cells #[.int .u8 0, .int .u8 0, .int .u8 0, .int .u8 0] 55)).alloc (.cells #[.int .u8 0, .int .u8 0, .int .u8 0, .int .u8 0] 55)).alloc (.cells #[.int .u8 0, .int .u8 0, .int .u8 0, .int .u8 0] 55)).heap[((w6.alloc (.cells #[.int .u8 0, .int .u8 0, .int .u8 0, .int .u8 0] 55)).alloc (.cells #[.int .u8 0, .int .u8 0, .int .u8 0, .int .u8 0] 55)).heap.size]? = some (.cells (nums .u8 [0, 0, 0, 0]).toArray 55 (0, 0)) from blk_new ((w6.alloc (.cells #[.int .u8 0, .int .u8 0, .int .u8 0, .int .u8 0] 55)).alloc (.cells #[.int .u8 0, .int .u8 0, .int .u8 0, .int .u8 0] 55)) (.cells #[.int .u8 0, .int .u8 0, .int .u8 0, .int .u8 0] 55))
      have F31_ := Aside0.mk (below_alloc F25_.out (.cells #[] 57))
      have F32_ := Aside0.mk (blk_alloc F26_.out (.cells #[] 57))
      have F33_ := Aside0.mk (DiskF.below F27_.out (below_alloc (Below.refl _ _) (.cells #[] 57)))
      have F34_ := Aside0.mk (blk_alloc F28_.out (.cells #[] 57))
      have F35_ := Aside0.mk (blk_alloc F29_.out (.cells #[] 57))
      have F36_ := Aside0.mk (blk_alloc F30_.out (.cells #[] 57))
      clear F25_ F26_ F27_ F28_ F29_ F30_
      simp only [World.size_alloc] at N0 F35_ F36_
      replace N0 := Aside0.mk N0
      generalize ((((w6.alloc (.cells #[.int .u8 0, .int .u8 0, .int .u8 0, .int .u8 0] 55)).alloc (.cells #[.int .u8 0, .int .u8 0, .int .u8 0, .int .u8 0] 55)).alloc (.cells #[.int .u8 0, .int .u8 0, .int .u8 0, .int .u8 0] 55)).alloc (.cells #[] 57)) = w7 at *
      have HNB := Aside0.mk (show b5 < w6.heap.size ∧ w6.heap.size < w6.heap.size + 1 ∧ w6.heap.size + 1 < w6.heap.size + 1 + 1 from ⟨HN.out.2.1, Nat.lt_succ_self _, Nat.lt_succ_self _⟩)
      generalize w6.heap.size + 1 + 1 = b10 at *
      generalize w6.heap.size + 1 = b9 at *
      generalize w6.heap.size = b8 at *
      go_wp2_with (fail)
      go_loopg [11, 12, 13] l.length (fun kq v11 v12 v13 w' => ∃ (i rm : Nat) (base : List Int) (wt : List S57) (P5 : Option Addr) (p5 : Nat) (Q5 : Option Addr) (q5 : Nat) (A11 : Option Addr) (c11 : Nat), v11 = .slice A11 wt.length c11 ∧ v12 = .int .i64 rm ∧ v13 = .int .i64 i ∧ Aside0 (i ≤ l.length ∧ kq + i = l.length ∧ wt.length ≤ i ∧ rm ≤ 255 ∧ base.length = 4) ∧ Aside0 (∀ y ∈ wt, 0 ≤ y.f1 ∧ y.f1 < 256 ∧ 0 ≤ y.f2 ∧ y.f2 < 256) ∧ Aside0 (Below w.heap.size w w') ∧ Aside0 (w'.heap[b5]? = some (.cells #[.slice P5 (hisD base wt (rm : Int)).s.length p5, .slice Q5 (hisD base wt (rm : Int)).p.length q5, .int .i64 (hisD base wt (rm : Int)).left, .bool (hisD base wt (rm : Int)).st] 25 (0, 0))) ∧ Aside0 (DiskF w' (okH b5 b8 b9 b10 (.slice A11 wt.length c11)) (.agg #[.slice P5 (hisD base wt (rm : Int)).s.length p5, .slice Q5 (hisD base wt (rm : Int)).p.length q5, .int .i64 (hisD base wt (rm : Int)).left, .bool (hisD base wt (rm : Int)).st]) (hisD base wt (rm : Int))) ∧ Aside0 (w'.heap[b8]? = some (.cells (nums .u8 (applyA wt base)).toArray 55 (0, 0))) ∧ Aside0 (w'.heap[b9]? = some (.cells (nums .u8 base).toArray 55 (0, 0))) ∧ Aside0 (w'.heap[b10]? = some (.cells (nums .u8 base).toArray 55 (0, 0))) ∧ Aside0 (Kd.N k57 57 w' w.heap.size (ok4 b5 b8 b9 b10) (.slice A11 wt.length c11) wt))
      case atStart => exact ⟨0, n, [0, 0, 0, 0], [], P2, p2, Q2, q2, some ⟨b10 + 1, 0, none⟩, 0, rfl, rfl, rfl, ⟨by have := HNN.out; simp; omega⟩, ⟨fun y hy => by cases hy⟩, ⟨F31_.out⟩, ⟨F32_.out⟩, ⟨DiskF.mono (ok' := okH b5 b8 b9 b10 (.slice (some ⟨b10 + 1, 0, none⟩) 0 0)) F33_.out (fun k hk => by have := HNB.out; exact ⟨⟨hk.1, by have := hk.2; omega, by have := hk.2; omega, by have := hk.2; omega⟩, by have := hk.2; simp [Value.ownBlock]; omega⟩)⟩, ⟨F34_.out⟩, ⟨F35_.out⟩, ⟨F36_.out⟩, ⟨N0.out⟩⟩
      clear F31_ F32_ F33_ F34_ F35_ F36_ N0 HL5 HST HZ HNN
      have HD := Aside0.mk (show w.heap.size ≤ b5 ∧ b5 < b8 ∧ b8 < b9 ∧ b9 < b10 ∧ w.heap.size ≤ b8 from ⟨HN.out.1, HNB.out.1, HNB.out.2.1, HNB.out.2.2, HN.out.2.2⟩)
      clear HN HNB HB5
      obtain ⟨i, rm, base, wt, P5, p5, Q5, q5, A11, c11, rfl, rfl, rfl, HI, HWB, GB, Gb5, Gx, Gb8, Gb9, Gb10, GN⟩ := hrel
      by_cases hi : i < l.length
      · skip
        have hi0 : decide (i < l.length) = true := decide_eq_true hi
        obtain ⟨X, hX⟩ : ∃ X, hisD base wt (rm : Int) = X := ⟨_, rfl⟩
        rw [hX] at Gb5 Gx
        replace hX := Aside0.mk hX
        obtain ⟨ad, rfl, ha0, ha1, ha2⟩ := at_T57 (Kd.C_below E0.out GB.out) (i : Int) (by omega) (by omega)
        rw [show ((i : Int)).toNat = i by omega, show rd_T57 l (i : Int) = l.getD i z57 from by unfold rd_T57; rw [show ((i : Int)).toNat = i by omega]] at ha0 ha1 ha2
        have hbx : 0 ≤ (l.getD i z57).f1 ∧ (l.getD i z57).f1 < 256 ∧ 0 ≤ (l.getD i z57).f2 ∧ (l.getD i z57).f2 < 256 := by have h_ := HBY.out _ (List.getElem_mem hi); rwa [show l.getD i z57 = l[i] from by simp [List.getD_eq_getElem?_getD, List.getElem?_eq_getElem hi]]
        generalize hxe : l.getD i z57 = x at *
        clear hxe
        have HBX := Aside0.mk hbx
        clear hbx
        have hw := Aside0.mk (show wrap64 ((i : Int) + 1) = ((i + 1 : Nat) : Int) by have := HLM.out; unfold wrap64; omega)
        cases hsy : x.f0 with
          | false =>
            have HB14 := Aside0.mk (show b5 < wr.heap.size ∧ b8 < wr.heap.size ∧ b9 < wr.heap.size ∧ b10 < wr.heap.size from ⟨blk_lt Gb5.out, blk_lt Gb8.out, blk_lt Gb9.out, blk_lt Gb10.out⟩)
            have HS := Aside0.mk hsy
            clear hsy
            go_upto_region 16 with (fail)
            clear ha0 ha1 ha2
            have F37_ := Aside0.mk (below_alloc GB.out (.cells #[.bool x.f0, .int .u8 x.f1, .int .u8 x.f2] 57))
            have F38_ := Aside0.mk (blk_alloc Gb5.out (.cells #[.bool x.f0, .int .u8 x.f1, .int .u8 x.f2] 57))
            have F39_ := Aside0.mk (DiskF.below Gx.out (below_alloc (Below.refl _ _) (.cells #[.bool x.f0, .int .u8 x.f1, .int .u8 x.f2] 57)))
            have F40_ := Aside0.mk (blk_alloc Gb8.out (.cells #[.bool x.f0, .int .u8 x.f1, .int .u8 x.f2] 57))
            have F41_ := Aside0.mk (blk_alloc Gb9.out (.cells #[.bool x.f0, .int .u8 x.f1, .int .u8 x.f2] 57))
            have F42_ := Aside0.mk (blk_alloc Gb10.out (.cells #[.bool x.f0, .int .u8 x.f1, .int .u8 x.f2] 57))
            have F43_ := Aside0.mk (Kd.N_alloc GN.out (.cells #[.bool x.f0, .int .u8 x.f1, .int .u8 x.f2] 57))
            clear GB Gb5 Gx Gb8 Gb9 Gb10 GN
            have F44_ := Aside0.mk (blk_new wr (.cells #[.bool x.f0, .int .u8 x.f1, .int .u8 x.f2] 57))
            generalize wr.alloc (.cells #[.bool x.f0, .int .u8 x.f1, .int .u8 x.f2] 57) = w8 at *
            generalize wr.heap.size = b14 at *
            have q0 := (blk_cell F44_.out 0).trans (show some (Value.bool x.f0) = some (Value.bool false) from by rw [HS.out])
            have HE14_ := Aside0.mk (show b14 ≠ b5 ∧ b14 ≠ b8 from ⟨Nat.ne_of_gt HB14.out.1, Nat.ne_of_gt HB14.out.2.1⟩)
            obtain ⟨m, hm, hm4, hmt, hmn⟩ := rem4 HBX.out.1 HBX.out.2.1
            have HMT := Aside0.mk hmt
            have HM := Aside0.mk (And.intro hm hmn)
            clear hm hmn
            have HW := Aside0.mk (show writeD X (m : Int) (dblD x.f2) = (hisD base (wt ++ [x]) (rm : Int), 0) from by rw [← hX.out, ← HM.out.1]; exact his_write x HI.out.2.2.2.2 (by have := HI.out; have := HL40.out; omega) (by omega) (by have := HI.out; omega))
            obtain ⟨X2, hX2⟩ : ∃ X2, hisD base (wt ++ [x]) (rm : Int) = X2 := ⟨_, rfl⟩
            rw [hX2] at HW
            replace hX2 := Aside0.mk hX2
            go_upto_region 17 with (fail)
            clear q0
            have hwu : IntKind.u8.wrap (m : Int) = (m : Int) := wraps_u8 m (by omega)
            have hwi : IntKind.i64.wrap (m : Int) = (m : Int) := by rw [i64_w]; unfold wrap64; omega
            have hbx0 := HBX.out.1
            have hbx1 := HBX.out.2.1
            refine start_ (n := 15) (S := fun w' => Below w8.drew.heap.size w8.drew w') (ds := []) #[false, false, false, false, false, false, false, false, false, false, false, false, false, false, false] (by kernel_rfl) rfl rfl (Below.refl _ _) (fun hHeld => ?_)
            have F45_ := Aside0.mk (below_drew1 F37_.out)
            have F46_ := Aside0.mk (blk_drew F38_.out)
            have F47_ := Aside0.mk (DiskF.below F39_.out (below_drew1 (Below.refl _ _)))
            have F48_ := Aside0.mk (blk_drew F40_.out)
            have F49_ := Aside0.mk (blk_drew F41_.out)
            have F50_ := Aside0.mk (blk_drew F42_.out)
            have F51_ := Aside0.mk (Kd.N_drew F43_.out)
            have F52_ := Aside0.mk (blk_drew F44_.out)
            clear F37_ F38_ F39_ F40_ F41_ F42_ F43_ F44_
            generalize w8.drew = w9 at *
            have F53_ := Aside0.mk (Kd.N_bound F51_.out)
            clear F51_
            have HFR := Aside0.mk (okH_fresh ⟨blk_lt F46_.out, blk_lt F48_.out, blk_lt F49_.out, blk_lt F50_.out⟩ F53_.out)
            have HL9_ := Aside0.mk (show w.heap.size ≤ w9.heap.size ∧ b14 < w9.heap.size ∧ b5 < w9.heap.size ∧ b8 < w9.heap.size ∧ b9 < w9.heap.size ∧ b10 < w9.heap.size from ⟨Below.size F45_.out, blk_lt F52_.out, blk_lt F46_.out, blk_lt F48_.out, blk_lt F49_.out, blk_lt F50_.out⟩)
            have hold_b5 := F46_.out
            have hold_b14 := F52_.out
            have hold_x := F47_.out
            refine take_ (i := 0) (N := some 60) (v := ?_) (a' := ?_) #[true, false, false, false, false, false, false, false, false, false, false, false, false, false, false] rfl rfl (by kernel_rfl) (fun _ _ _ h => h) (Or.inl ⟨by rfl, ?_⟩) hHeld ?_ ?_
            rotate_left
            · rintro w' s0
              have hz0 := blk_below hold_b5 s0
              have yy00 := (blk_cell hz0 0).trans rfl
              have yy01 := (blk_cell hz0 1).trans rfl
              have yy02 := (blk_cell hz0 2).trans rfl
              have yy03 := (blk_cell hz0 3).trans rfl
              go_simp
              with_reducible rfl
            rotate_left
            · simp only [Act.put, List.setIfInBounds_toArray, List.set_cons_zero, List.set_cons_succ, i64_w, i32_w]
              rfl
            refine pure_ (i := 1) (N := some 61) (v := ?_) (a' := ?_) #[true, true, false, false, false, false, false, false, false, false, false, false, false, false, false] rfl rfl (by kernel_rfl) (fun _ _ _ h => h) (Or.inl ⟨by rfl, ?_⟩) ?_ ?_
            rotate_left
            · intro w'
              go_simp
              with_reducible rfl
            rotate_left
            · simp only [Act.put, List.setIfInBounds_toArray, List.set_cons_zero, List.set_cons_succ, i64_w, i32_w]
              rfl
            refine take_ (i := 2) (N := some 62) (v := ?_) (a' := ?_) #[true, true, true, false, false, false, false, false, false, false, false, false, false, false, false] rfl rfl (by kernel_rfl) (fun _ _ _ h => h) (Or.inl ⟨by rfl, ?_⟩) hHeld ?_ ?_
            rotate_left
            · rintro w' s0
              have hz0 := blk_below hold_b14 s0
              have yy01 := (blk_cell hz0 1).trans rfl
              go_simp
              with_reducible rfl
            rotate_left
            · simp only [Act.put, List.setIfInBounds_toArray, List.set_cons_zero, List.set_cons_succ, i64_w, i32_w]
              rfl
            refine pure_ (i := 3) (N := some 63) (v := ?_) (a' := ?_) #[true, true, true, true, false, false, false, false, false, false, false, false, false, false, false] rfl rfl (by kernel_rfl) (fun _ _ _ h => h) (Or.inl ⟨by rfl, ?_⟩) ?_ ?_
            rotate_left
            · intro w'
              go_simp
              with_reducible rfl
            rotate_left
            · simp only [Act.put, List.setIfInBounds_toArray, List.set_cons_zero, List.set_cons_succ, i64_w, i32_w]
              rfl
            refine pure_ (i := 4) (N := some 64) (v := ?_) (a' := ?_) #[true, true, true, true, true, false, false, false, false, false, false, false, false, false, false] rfl rfl (by kernel_rfl) (fun _ _ _ h => h) (Or.inl ⟨by rfl, ?_⟩) ?_ ?_
            rotate_left
            · intro w'
              go_simp
              with_reducible rfl
            rotate_left
            · simp only [Act.put, List.setIfInBounds_toArray, List.set_cons_zero, List.set_cons_succ, i64_w, i32_w]
              rfl
            refine pure_ (i := 5) (N := some 65) (v := ?_) (a' := ?_) #[true, true, true, true, true, true, false, false, false, false, false, false, false, false, false] rfl rfl (by kernel_rfl) (fun _ _ _ h => h) (Or.inl ⟨by rfl, ?_⟩) ?_ ?_
            rotate_left
            · intro w'
              go_simp
              with_reducible rfl
            rotate_left
            · simp only [Act.put, List.setIfInBounds_toArray, List.set_cons_zero, List.set_cons_succ, i64_w, i32_w]
              rfl
            refine take_ (i := 6) (N := some 66) (v := ?_) (a' := ?_) #[true, true, true, true, true, true, true, false, false, false, false, false, false, false, false] rfl rfl (by kernel_rfl) (fun _ _ _ h => h) (Or.inl ⟨by rfl, ?_⟩) hHeld ?_ ?_
            rotate_left
            · rintro w' s0
              have hz0 := blk_below hold_b14 s0
              have yy02 := (blk_cell hz0 2).trans rfl
              go_simp
              with_reducible rfl
            rotate_left
            · simp only [Act.put, List.setIfInBounds_toArray, List.set_cons_zero, List.set_cons_succ, i64_w, i32_w]
              rfl
            clear hmt hwu hwi hbx0 hbx1
            refine join_ (σ := Value × (Option Addr × Nat × Option Addr × Nat) × Nat) 2 #[true, true, true, true, true, true, true, true, true, true, true, true, true, false, false] (fun s_ => [(67, s_.1), (68, .tuple #[(.agg #[.slice s_.2.1.1 X2.s.length s_.2.1.2.1, .slice s_.2.1.2.2.1 X2.p.length s_.2.1.2.2.2, .int .i64 X2.left, .bool X2.st]), .int .i64 0]), (59, .tuple #[(.agg #[.slice s_.2.1.1 X2.s.length s_.2.1.2.1, .slice s_.2.1.2.2.1 X2.p.length s_.2.1.2.2.2, .int .i64 X2.left, .bool X2.st]), .int .i64 0]), (69, (.agg #[.slice s_.2.1.1 X2.s.length s_.2.1.2.1, .slice s_.2.1.2.2.1 X2.p.length s_.2.1.2.2.2, .int .i64 X2.left, .bool X2.st])), (70, .int .i64 0), (15, .pointer (some ⟨s_.2.2, 0, none⟩))]) (fun s_ w' => Below w9.heap.size w9 w' ∧ DiskF w' (fun k => (okH b5 b8 b9 b10 (.slice A11 wt.length c11)) k ∧ k ≠ s_.2.2) (.agg #[.slice s_.2.1.1 X2.s.length s_.2.1.2.1, .slice s_.2.1.2.2.1 X2.p.length s_.2.1.2.2.2, .int .i64 X2.left, .bool X2.st]) X2 ∧ w'.heap[s_.2.2]? = some (.cells #[.slice none 0 0, .slice none 0 0, .int .i64 0, .bool false] 25 (0, 0)) ∧ w9.heap.size ≤ s_.2.2) ?_ ?_
            rotate_left
            · intro hCont
              refine two_ (i := 7) (j := 12) (Ni := some 67) (Nj := some 15) #[true, true, true, true, true, true, true, true, false, false, false, false, false, false, false] #[true, true, true, true, true, true, true, false, false, false, false, false, true, false, false] rfl rfl rfl rfl (by kernel_rfl) (by decide) (by decide) (fun K hK => ?_) (fun K hK => ?_)
              · skip
                refine goes_ Try.func42 (by kernel_rfl) rfl #[.int .u8 x.f2] (by rfl) rfl rfl (by (try simp only [List.map_toArray, List.map_cons, List.map_nil]); first | done | rfl) ?_
                refine (double_says x.f2 _).mono ?_
                rintro e w_d ⟨⟨v_d, rfl, hdd⟩, hbd⟩
                refine ⟨_, rfl, ?_⟩
                refine hK.out _ _ (below_step hHeld hbd) (fun hHeld => ?_)
                clear hK K
                refine norm_ (a' := ?_) ?_ ?_
                rotate_left
                · show Act.put _ (some 67) _ = _
                  simp only [Act.put, List.setIfInBounds_toArray, List.set_cons_zero, List.set_cons_succ, i64_w, i32_w]
                  rfl
                have hsd := Below.size hHeld
                refine two_ (i := 8) (j := 12) (Ni := some 68) (Nj := some 15) #[true, true, true, true, true, true, true, true, true, false, false, false, false, false, false] #[true, true, true, true, true, true, true, true, false, false, false, false, true, false, false] rfl rfl rfl rfl (by kernel_rfl) (by decide) (by decide) (fun K hK => ?_) (fun K hK => ?_)
                · skip
                  refine goes_ Try.func26 (by kernel_rfl) rfl #[(.agg #[.slice P5 X.s.length p5, .slice Q5 X.p.length q5, .int .i64 X.left, .bool X.st]), .int .i64 (m : Int), v_d] (by rfl) rfl rfl (by (try simp only [List.map_toArray, List.map_cons, List.map_nil]); first | done | rfl) ?_
                  refine ((writeF_says (fun k => (okH b5 b8 b9 b10 (.slice A11 wt.length c11)) k ∧ k < w9.heap.size) _ _ X (m : Int) (dblD x.f2) _ (DiskF.below (DiskF.bound hold_x) hHeld) hdd).mono (fun e w' h => DEF.of h HW.out)).mono ?_
                  rintro e w_c ⟨⟨P_c, p_c, Q_c, q_c, rfl, hd⟩, hb⟩
                  refine ⟨_, rfl, ?_⟩
                  refine hK.out _ _ (below_step hHeld hb) (fun hHeld => ?_)
                  clear hK K
                  refine norm_ (a' := ?_) ?_ ?_
                  rotate_left
                  · show Act.put _ (some 68) _ = _
                    simp only [Act.put, List.setIfInBounds_toArray, List.set_cons_zero, List.set_cons_succ, i64_w, i32_w]
                    rfl
                  refine pure_ (i := 9) (N := some 59) (v := ?_) (a' := ?_) #[true, true, true, true, true, true, true, true, true, true, false, false, false, false, false] rfl rfl (by kernel_rfl) (fun _ _ _ h => h) (Or.inl ⟨by rfl, ?_⟩) ?_ ?_
                  rotate_left
                  · intro w'
                    go_simp
                    with_reducible rfl
                  rotate_left
                  · simp only [Act.put, List.setIfInBounds_toArray, List.set_cons_zero, List.set_cons_succ, i64_w, i32_w]
                    rfl
                  refine pure_ (i := 10) (N := some 69) (v := ?_) (a' := ?_) #[true, true, true, true, true, true, true, true, true, true, true, false, false, false, false] rfl rfl (by kernel_rfl) (fun _ _ _ h => h) (Or.inl ⟨by rfl, ?_⟩) ?_ ?_
                  rotate_left
                  · intro w'
                    go_simp
                    with_reducible rfl
                  rotate_left
                  · simp only [Act.put, List.setIfInBounds_toArray, List.set_cons_zero, List.set_cons_succ, i64_w, i32_w]
                    rfl
                  refine pure_ (i := 11) (N := some 70) (v := ?_) (a' := ?_) #[true, true, true, true, true, true, true, true, true, true, true, true, false, false, false] rfl rfl (by kernel_rfl) (fun _ _ _ h => h) (Or.inl ⟨by rfl, ?_⟩) ?_ ?_
                  rotate_left
                  · intro w'
                    go_simp
                    with_reducible rfl
                  rotate_left
                  · simp only [Act.put, List.setIfInBounds_toArray, List.set_cons_zero, List.set_cons_succ, i64_w, i32_w]
                    rfl
                  have hsc := Below.size hHeld
                  refine one_ (i := 12) (N := some 15) #[true, true, true, true, true, true, true, true, true, true, true, true, true, false, false] rfl rfl (by kernel_rfl) (by decide) (fun K hK => ?_)
                  refine value_ (w1 := ?_) (v := ?_) (by rfl) rfl ?_ ?_
                  rotate_left 2
                  · go_simp
                    constructor
                    · rfl
                    · rfl
                  refine hK.out _ _ (below_alloc hHeld _) (fun hHeld => ?_)
                  clear hK K
                  refine norm_ (a' := ?_) ?_ ?_
                  rotate_left
                  · show Act.put _ (some 15) _ = _
                    simp only [Act.put, List.setIfInBounds_toArray, List.set_cons_zero, List.set_cons_succ, i64_w, i32_w]
                    rfl
                  exact norm_ (by simp only [putAll, Act.put, List.setIfInBounds_toArray, List.set_cons_zero, List.set_cons_succ]) (hCont (v_d, (P_c, p_c, Q_c, q_c), w_c.heap.size) _ ⟨hHeld, DiskF.mono (DiskF.below (DiskF.bound hd) (below_alloc (Below.refl _ _) (.cells #[.slice none 0 0, .slice none 0 0, .int .i64 0, .bool false] 25))) (fun k hk => ⟨Or.elim hk.1 (fun h => h.1) (fun h => HFR.out k (Nat.le_trans hsd h)), Nat.ne_of_lt hk.2⟩), blk_new w_c (.cells #[.slice none 0 0, .slice none 0 0, .int .i64 0, .bool false] 25), hsc⟩)
                · skip
                  refine value_ (w1 := ?_) (v := ?_) (by rfl) rfl ?_ ?_
                  rotate_left 2
                  · go_simp
                    constructor
                    · rfl
                    · rfl
                  refine hK.out _ _ (below_alloc hHeld _) (fun hHeld => ?_)
                  clear hK K
                  refine norm_ (a' := ?_) ?_ ?_
                  rotate_left
                  · show Act.put _ (some 15) _ = _
                    simp only [Act.put, List.setIfInBounds_toArray, List.set_cons_zero, List.set_cons_succ, i64_w, i32_w]
                    rfl
                  refine one_ (i := 8) (N := some 68) #[true, true, true, true, true, true, true, true, true, false, false, false, true, false, false] rfl rfl (by kernel_rfl) (by decide) (fun K hK => ?_)
                  refine goes_ Try.func26 (by kernel_rfl) rfl #[(.agg #[.slice P5 X.s.length p5, .slice Q5 X.p.length q5, .int .i64 X.left, .bool X.st]), .int .i64 (m : Int), v_d] (by rfl) rfl rfl (by (try simp only [List.map_toArray, List.map_cons, List.map_nil]); first | done | rfl) ?_
                  refine ((writeF_says (fun k => (okH b5 b8 b9 b10 (.slice A11 wt.length c11)) k ∧ k < w9.heap.size) _ _ X (m : Int) (dblD x.f2) _ (DiskF.below (DiskF.bound hold_x) hHeld) (BytesV.below hdd (below_alloc (Below.refl _ _) (.cells #[.slice none 0 0, .slice none 0 0, .int .i64 0, .bool false] 25)))).mono (fun e w' h => DEF.of h HW.out)).mono ?_
                  rintro e w_c ⟨⟨P_c, p_c, Q_c, q_c, rfl, hd⟩, hb⟩
                  refine ⟨_, rfl, ?_⟩
                  refine hK.out _ _ (below_step hHeld hb) (fun hHeld => ?_)
                  clear hK K
                  refine norm_ (a' := ?_) ?_ ?_
                  rotate_left
                  · show Act.put _ (some 68) _ = _
                    simp only [Act.put, List.setIfInBounds_toArray, List.set_cons_zero, List.set_cons_succ, i64_w, i32_w]
                    rfl
                  refine pure_ (i := 9) (N := some 59) (v := ?_) (a' := ?_) #[true, true, true, true, true, true, true, true, true, true, false, false, true, false, false] rfl rfl (by kernel_rfl) (fun _ _ _ h => h) (Or.inl ⟨by rfl, ?_⟩) ?_ ?_
                  rotate_left
                  · intro w'
                    go_simp
                    with_reducible rfl
                  rotate_left
                  · simp only [Act.put, List.setIfInBounds_toArray, List.set_cons_zero, List.set_cons_succ, i64_w, i32_w]
                    rfl
                  refine pure_ (i := 10) (N := some 69) (v := ?_) (a' := ?_) #[true, true, true, true, true, true, true, true, true, true, true, false, true, false, false] rfl rfl (by kernel_rfl) (fun _ _ _ h => h) (Or.inl ⟨by rfl, ?_⟩) ?_ ?_
                  rotate_left
                  · intro w'
                    go_simp
                    with_reducible rfl
                  rotate_left
                  · simp only [Act.put, List.setIfInBounds_toArray, List.set_cons_zero, List.set_cons_succ, i64_w, i32_w]
                    rfl
                  refine pure_ (i := 11) (N := some 70) (v := ?_) (a' := ?_) #[true, true, true, true, true, true, true, true, true, true, true, true, true, false, false] rfl rfl (by kernel_rfl) (fun _ _ _ h => h) (Or.inl ⟨by rfl, ?_⟩) ?_ ?_
                  rotate_left
                  · intro w'
                    go_simp
                    with_reducible rfl
                  rotate_left
                  · simp only [Act.put, List.setIfInBounds_toArray, List.set_cons_zero, List.set_cons_succ, i64_w, i32_w]
                    rfl
                  exact norm_ (by simp only [putAll, Act.put, List.setIfInBounds_toArray, List.set_cons_zero, List.set_cons_succ]) (hCont (v_d, (P_c, p_c, Q_c, q_c), w_d.heap.size) _ ⟨hHeld, DiskF.mono hd (fun k hk => ⟨Or.elim hk (fun h => h.1) (fun h => HFR.out k (by rw [World.size_alloc] at h; omega)), Or.elim hk (fun h => by have := h.2; dsimp only; omega) (fun h => by rw [World.size_alloc] at h; dsimp only; omega)⟩), (blk_below (blk_new w_d (.cells #[.slice none 0 0, .slice none 0 0, .int .i64 0, .bool false] 25)) hb), hsd⟩)
              · skip
                refine value_ (w1 := ?_) (v := ?_) (by rfl) rfl ?_ ?_
                rotate_left 2
                · go_simp
                  constructor
                  · rfl
                  · rfl
                refine hK.out _ _ (below_alloc hHeld _) (fun hHeld => ?_)
                clear hK K
                refine norm_ (a' := ?_) ?_ ?_
                rotate_left
                · show Act.put _ (some 15) _ = _
                  simp only [Act.put, List.setIfInBounds_toArray, List.set_cons_zero, List.set_cons_succ, i64_w, i32_w]
                  rfl
                refine one_ (i := 7) (N := some 67) #[true, true, true, true, true, true, true, true, false, false, false, false, true, false, false] rfl rfl (by kernel_rfl) (by decide) (fun K hK => ?_)
                refine goes_ Try.func42 (by kernel_rfl) rfl #[.int .u8 x.f2] (by rfl) rfl rfl (by (try simp only [List.map_toArray, List.map_cons, List.map_nil]); first | done | rfl) ?_
                refine (double_says x.f2 _).mono ?_
                rintro e w_d ⟨⟨v_d, rfl, hdd⟩, hbd⟩
                refine ⟨_, rfl, ?_⟩
                refine hK.out _ _ (below_step hHeld hbd) (fun hHeld => ?_)
                clear hK K
                refine norm_ (a' := ?_) ?_ ?_
                rotate_left
                · show Act.put _ (some 67) _ = _
                  simp only [Act.put, List.setIfInBounds_toArray, List.set_cons_zero, List.set_cons_succ, i64_w, i32_w]
                  rfl
                have hsd := Below.size hbd
                rw [World.size_alloc] at hsd
                refine one_ (i := 8) (N := some 68) #[true, true, true, true, true, true, true, true, true, false, false, false, true, false, false] rfl rfl (by kernel_rfl) (by decide) (fun K hK => ?_)
                refine goes_ Try.func26 (by kernel_rfl) rfl #[(.agg #[.slice P5 X.s.length p5, .slice Q5 X.p.length q5, .int .i64 X.left, .bool X.st]), .int .i64 (m : Int), v_d] (by rfl) rfl rfl (by (try simp only [List.map_toArray, List.map_cons, List.map_nil]); first | done | rfl) ?_
                refine ((writeF_says (fun k => (okH b5 b8 b9 b10 (.slice A11 wt.length c11)) k ∧ k < w9.heap.size) _ _ X (m : Int) (dblD x.f2) _ (DiskF.below (DiskF.bound hold_x) hHeld) hdd).mono (fun e w' h => DEF.of h HW.out)).mono ?_
                rintro e w_c ⟨⟨P_c, p_c, Q_c, q_c, rfl, hd⟩, hb⟩
                refine ⟨_, rfl, ?_⟩
                refine hK.out _ _ (below_step hHeld hb) (fun hHeld => ?_)
                clear hK K
                refine norm_ (a' := ?_) ?_ ?_
                rotate_left
                · show Act.put _ (some 68) _ = _
                  simp only [Act.put, List.setIfInBounds_toArray, List.set_cons_zero, List.set_cons_succ, i64_w, i32_w]
                  rfl
                refine pure_ (i := 9) (N := some 59) (v := ?_) (a' := ?_) #[true, true, true, true, true, true, true, true, true, true, false, false, true, false, false] rfl rfl (by kernel_rfl) (fun _ _ _ h => h) (Or.inl ⟨by rfl, ?_⟩) ?_ ?_
                rotate_left
                · intro w'
                  go_simp
                  with_reducible rfl
                rotate_left
                · simp only [Act.put, List.setIfInBounds_toArray, List.set_cons_zero, List.set_cons_succ, i64_w, i32_w]
                  rfl
                refine pure_ (i := 10) (N := some 69) (v := ?_) (a' := ?_) #[true, true, true, true, true, true, true, true, true, true, true, false, true, false, false] rfl rfl (by kernel_rfl) (fun _ _ _ h => h) (Or.inl ⟨by rfl, ?_⟩) ?_ ?_
                rotate_left
                · intro w'
                  go_simp
                  with_reducible rfl
                rotate_left
                · simp only [Act.put, List.setIfInBounds_toArray, List.set_cons_zero, List.set_cons_succ, i64_w, i32_w]
                  rfl
                refine pure_ (i := 11) (N := some 70) (v := ?_) (a' := ?_) #[true, true, true, true, true, true, true, true, true, true, true, true, true, false, false] rfl rfl (by kernel_rfl) (fun _ _ _ h => h) (Or.inl ⟨by rfl, ?_⟩) ?_ ?_
                rotate_left
                · intro w'
                  go_simp
                  with_reducible rfl
                rotate_left
                · simp only [Act.put, List.setIfInBounds_toArray, List.set_cons_zero, List.set_cons_succ, i64_w, i32_w]
                  rfl
                exact norm_ (by simp only [putAll, Act.put, List.setIfInBounds_toArray, List.set_cons_zero, List.set_cons_succ]) (hCont (v_d, (P_c, p_c, Q_c, q_c), w9.heap.size) _ ⟨hHeld, DiskF.mono hd (fun k hk => ⟨Or.elim hk (fun h => h.1) (fun h => HFR.out k (by omega)), Or.elim hk (fun h => by have := h.2; dsimp only; omega) (fun h => by dsimp only; omega)⟩), (blk_below (blk_below (blk_new w9 (.cells #[.slice none 0 0, .slice none 0 0, .int .i64 0, .bool false] 25)) hbd) hb), Nat.le_refl _⟩)
            rintro ⟨v_l, ⟨P9, p9, Q9, q9⟩, b15⟩ w10 ⟨hHeld, ⟨hdz, hbz, hlez⟩⟩
            dsimp only at *
            refine norm_ (a' := ?_) ?_ ?_
            rotate_left
            · simp only [putAll, Act.put, List.setIfInBounds_toArray, List.set_cons_zero, List.set_cons_succ]
              rfl
            have F54_ := Aside0.mk (below_step F45_.out hHeld)
            have F55_ := Aside0.mk (blk_below F46_.out hHeld)
            have F56_ := Aside0.mk (DiskF.below F47_.out hHeld)
            have F57_ := Aside0.mk (blk_below F48_.out hHeld)
            have F58_ := Aside0.mk (blk_below F49_.out hHeld)
            have F59_ := Aside0.mk (blk_below F50_.out hHeld)
            have F60_ := Aside0.mk (Kd.N_below F53_.out hHeld)
            have F61_ := Aside0.mk (blk_below F52_.out hHeld)
            clear F45_ F46_ F47_ F48_ F49_ F50_ F53_ F52_
            clear F56_
            have F62_ := Aside0.mk (hdz)
            have F63_ := Aside0.mk (hbz)
            replace hlez := Aside0.mk hlez
            clear hdz hbz hold_b5 hold_b14 hold_x
            have HL9 := Aside0.mk (show w.heap.size ≤ w9.heap.size ∧ b14 < w9.heap.size ∧ b5 < w9.heap.size ∧ b8 < w9.heap.size ∧ b9 < w9.heap.size ∧ b10 < w9.heap.size from HL9_.out)
            have z0 := (blk_cell F63_.out 0).trans rfl
            have z1 := (blk_cell F63_.out 1).trans rfl
            have z2 := (blk_cell F63_.out 2).trans rfl
            have z3 := (blk_cell F63_.out 3).trans rfl
            have zf0 := blk_frozen F63_.out 0
            have zf1 := blk_frozen F63_.out 1
            have zf2 := blk_frozen F63_.out 2
            have zf3 := blk_frozen F63_.out 3
            refine one_ (i := 13) (N := none) #[true, true, true, true, true, true, true, true, true, true, true, true, true, true, false] rfl rfl (by kernel_rfl) (by decide) (fun K hK => ?_)
            refine skip_ (w1 := ?_) (by rfl) rfl ?_ ?_
            rotate_left
            · go_simp
              rfl
            refine hK.out _ _ (by refine Below.setCell ?_ hlez.out _; refine Below.setCell ?_ hlez.out _; refine Below.setCell ?_ hlez.out _; refine Below.setCell ?_ hlez.out _; exact hHeld) (fun hHeld => ?_)
            clear hK K
            clear z0 z1 z2 z3
            clear zf0 zf1 zf2 zf3
            have F64_ := Aside0.mk (Below.setCell (p := ⟨b15, 3, none⟩) (Below.setCell (p := ⟨b15, 2, none⟩) (Below.setCell (p := ⟨b15, 1, none⟩) (Below.setCell (p := ⟨b15, 0, none⟩) F54_.out (Nat.le_trans HL9.out.1 hlez.out) (.slice P9 X2.s.length p9)) (Nat.le_trans HL9.out.1 hlez.out) (.slice Q9 X2.p.length q9)) (Nat.le_trans HL9.out.1 hlez.out) (.int .i64 X2.left)) (Nat.le_trans HL9.out.1 hlez.out) (.bool X2.st))
            have F65_ := Aside0.mk (blk_far (blk_far (blk_far (blk_far F55_.out (p := ⟨b15, 0, none⟩) (by have := HL9.out; have := hlez.out; simp; omega) (.slice P9 X2.s.length p9)) (p := ⟨b15, 1, none⟩) (by have := HL9.out; have := hlez.out; simp; omega) (.slice Q9 X2.p.length q9)) (p := ⟨b15, 2, none⟩) (by have := HL9.out; have := hlez.out; simp; omega) (.int .i64 X2.left)) (p := ⟨b15, 3, none⟩) (by have := HL9.out; have := hlez.out; simp; omega) (.bool X2.st))
            have F66_ := Aside0.mk (blk_far (blk_far (blk_far (blk_far F57_.out (p := ⟨b15, 0, none⟩) (by have := HL9.out; have := hlez.out; simp; omega) (.slice P9 X2.s.length p9)) (p := ⟨b15, 1, none⟩) (by have := HL9.out; have := hlez.out; simp; omega) (.slice Q9 X2.p.length q9)) (p := ⟨b15, 2, none⟩) (by have := HL9.out; have := hlez.out; simp; omega) (.int .i64 X2.left)) (p := ⟨b15, 3, none⟩) (by have := HL9.out; have := hlez.out; simp; omega) (.bool X2.st))
            have F67_ := Aside0.mk (blk_far (blk_far (blk_far (blk_far F58_.out (p := ⟨b15, 0, none⟩) (by have := HL9.out; have := hlez.out; simp; omega) (.slice P9 X2.s.length p9)) (p := ⟨b15, 1, none⟩) (by have := HL9.out; have := hlez.out; simp; omega) (.slice Q9 X2.p.length q9)) (p := ⟨b15, 2, none⟩) (by have := HL9.out; have := hlez.out; simp; omega) (.int .i64 X2.left)) (p := ⟨b15, 3, none⟩) (by have := HL9.out; have := hlez.out; simp; omega) (.bool X2.st))
            have F68_ := Aside0.mk (blk_far (blk_far (blk_far (blk_far F59_.out (p := ⟨b15, 0, none⟩) (by have := HL9.out; have := hlez.out; simp; omega) (.slice P9 X2.s.length p9)) (p := ⟨b15, 1, none⟩) (by have := HL9.out; have := hlez.out; simp; omega) (.slice Q9 X2.p.length q9)) (p := ⟨b15, 2, none⟩) (by have := HL9.out; have := hlez.out; simp; omega) (.int .i64 X2.left)) (p := ⟨b15, 3, none⟩) (by have := HL9.out; have := hlez.out; simp; omega) (.bool X2.st))
            have F69_ := Aside0.mk (Kd.N_far (Kd.N_far (Kd.N_far (Kd.N_far F60_.out (p := ⟨b15, 0, none⟩) (fun k hk => Nat.ne_of_lt (Nat.lt_of_lt_of_le hk.2 hlez.out)) (.slice P9 X2.s.length p9)) (p := ⟨b15, 1, none⟩) (fun k hk => Nat.ne_of_lt (Nat.lt_of_lt_of_le hk.2 hlez.out)) (.slice Q9 X2.p.length q9)) (p := ⟨b15, 2, none⟩) (fun k hk => Nat.ne_of_lt (Nat.lt_of_lt_of_le hk.2 hlez.out)) (.int .i64 X2.left)) (p := ⟨b15, 3, none⟩) (fun k hk => Nat.ne_of_lt (Nat.lt_of_lt_of_le hk.2 hlez.out)) (.bool X2.st))
            have F70_ := Aside0.mk (blk_far (blk_far (blk_far (blk_far F61_.out (p := ⟨b15, 0, none⟩) (by have := HL9.out; have := hlez.out; simp; omega) (.slice P9 X2.s.length p9)) (p := ⟨b15, 1, none⟩) (by have := HL9.out; have := hlez.out; simp; omega) (.slice Q9 X2.p.length q9)) (p := ⟨b15, 2, none⟩) (by have := HL9.out; have := hlez.out; simp; omega) (.int .i64 X2.left)) (p := ⟨b15, 3, none⟩) (by have := HL9.out; have := hlez.out; simp; omega) (.bool X2.st))
            have F71_ := Aside0.mk (DiskF.far (DiskF.far (DiskF.far (DiskF.far F62_.out (p := ⟨b15, 0, none⟩) (fun k hk => hk.2) (.slice P9 X2.s.length p9)) (p := ⟨b15, 1, none⟩) (fun k hk => hk.2) (.slice Q9 X2.p.length q9)) (p := ⟨b15, 2, none⟩) (fun k hk => hk.2) (.int .i64 X2.left)) (p := ⟨b15, 3, none⟩) (fun k hk => hk.2) (.bool X2.st))
            have F72_ := Aside0.mk (show ((((w10.setCell ⟨b15, 0, none⟩ (.slice P9 X2.s.length p9)).setCell ⟨b15, 1, none⟩ (.slice Q9 X2.p.length q9)).setCell ⟨b15, 2, none⟩ (.int .i64 X2.left)).setCell ⟨b15, 3, none⟩ (.bool X2.st)).heap[b15]? = some (.cells #[.slice P9 X2.s.length p9, .slice Q9 X2.p.length q9, .int .i64 X2.left, .bool X2.st] 25 (0, 0)) from (blk_set (blk_set (blk_set (blk_set F63_.out 0 (.slice P9 X2.s.length p9)) 1 (.slice Q9 X2.p.length q9)) 2 (.int .i64 X2.left)) 3 (.bool X2.st)))
            clear F54_ F55_ F57_ F58_ F59_ F60_ F61_ F62_ F63_
            generalize ((((w10.setCell ⟨b15, 0, none⟩ (.slice P9 X2.s.length p9)).setCell ⟨b15, 1, none⟩ (.slice Q9 X2.p.length q9)).setCell ⟨b15, 2, none⟩ (.int .i64 X2.left)).setCell ⟨b15, 3, none⟩ (.bool X2.st)) = w11 at *
            have F73_ := Aside0.mk (Kd.N_mono (ok' := ok4 b5 b8 b9 b10) F69_.out (fun k hk => hk.1))
            clear F69_
            have F74_ := Aside0.mk (DiskF.mono (ok' := (okH b5 b8 b9 b10 (.slice A11 wt.length c11))) F71_.out (fun k hk => hk.1))
            clear F71_
            refine pure_ (i := 14) (N := some 16) (v := ?_) (a' := ?_) #[true, true, true, true, true, true, true, true, true, true, true, true, true, true, true] rfl rfl (by kernel_rfl) (fun _ _ _ h => h) (Or.inl ⟨by rfl, ?_⟩) ?_ ?_
            rotate_left
            · intro w'
              go_simp
              with_reducible rfl
            rotate_left
            · simp only [Act.put, List.setIfInBounds_toArray, List.set_cons_zero, List.set_cons_succ, i64_w, i32_w]
              rfl
            refine done_ (by kernel_rfl) ?_
            clear hlez hHeld HFR
            have HE14 := Aside0.mk (show b14 ≠ b5 ∧ b14 ≠ b8 from HE14_.out)
            have y0 := (blk_cell F72_.out 0).trans rfl
            have y1 := (blk_cell F72_.out 1).trans rfl
            have y2 := (blk_cell F72_.out 2).trans rfl
            have y3 := (blk_cell F72_.out 3).trans rfl
            have z0 := (blk_cell F65_.out 0).trans rfl
            have z1 := (blk_cell F65_.out 1).trans rfl
            have z2 := (blk_cell F65_.out 2).trans rfl
            have z3 := (blk_cell F65_.out 3).trans rfl
            have zf0 := blk_frozen F65_.out 0
            have zf1 := blk_frozen F65_.out 1
            have zf2 := blk_frozen F65_.out 2
            have zf3 := blk_frozen F65_.out 3
            go_upto_region 21 with (fail)
            clear y0 y1 y2 y3
            clear z0 z1 z2 z3
            clear zf0 zf1 zf2 zf3
            clear F72_
            have F75_ := Aside0.mk (Below.setCell (p := ⟨b5, 3, none⟩) (Below.setCell (p := ⟨b5, 2, none⟩) (Below.setCell (p := ⟨b5, 1, none⟩) (Below.setCell (p := ⟨b5, 0, none⟩) F64_.out HD.out.1 (.slice P9 X2.s.length p9)) HD.out.1 (.slice Q9 X2.p.length q9)) HD.out.1 (.int .i64 X2.left)) HD.out.1 (.bool X2.st))
            have F76_ := Aside0.mk (show ((((w11.setCell ⟨b5, 0, none⟩ (.slice P9 X2.s.length p9)).setCell ⟨b5, 1, none⟩ (.slice Q9 X2.p.length q9)).setCell ⟨b5, 2, none⟩ (.int .i64 X2.left)).setCell ⟨b5, 3, none⟩ (.bool X2.st)).heap[b5]? = some (.cells #[.slice P9 X2.s.length p9, .slice Q9 X2.p.length q9, .int .i64 X2.left, .bool X2.st] 25 (0, 0)) from (blk_set (blk_set (blk_set (blk_set F65_.out 0 (.slice P9 X2.s.length p9)) 1 (.slice Q9 X2.p.length q9)) 2 (.int .i64 X2.left)) 3 (.bool X2.st)))
            have F77_ := Aside0.mk (blk_far (blk_far (blk_far (blk_far F66_.out (p := ⟨b5, 0, none⟩) (by have := HD.out; simp; omega) (.slice P9 X2.s.length p9)) (p := ⟨b5, 1, none⟩) (by have := HD.out; simp; omega) (.slice Q9 X2.p.length q9)) (p := ⟨b5, 2, none⟩) (by have := HD.out; simp; omega) (.int .i64 X2.left)) (p := ⟨b5, 3, none⟩) (by have := HD.out; simp; omega) (.bool X2.st))
            have F78_ := Aside0.mk (blk_far (blk_far (blk_far (blk_far F67_.out (p := ⟨b5, 0, none⟩) (by have := HD.out; simp; omega) (.slice P9 X2.s.length p9)) (p := ⟨b5, 1, none⟩) (by have := HD.out; simp; omega) (.slice Q9 X2.p.length q9)) (p := ⟨b5, 2, none⟩) (by have := HD.out; simp; omega) (.int .i64 X2.left)) (p := ⟨b5, 3, none⟩) (by have := HD.out; simp; omega) (.bool X2.st))
            have F79_ := Aside0.mk (blk_far (blk_far (blk_far (blk_far F68_.out (p := ⟨b5, 0, none⟩) (by have := HD.out; simp; omega) (.slice P9 X2.s.length p9)) (p := ⟨b5, 1, none⟩) (by have := HD.out; simp; omega) (.slice Q9 X2.p.length q9)) (p := ⟨b5, 2, none⟩) (by have := HD.out; simp; omega) (.int .i64 X2.left)) (p := ⟨b5, 3, none⟩) (by have := HD.out; simp; omega) (.bool X2.st))
            have F80_ := Aside0.mk (Kd.N_far (Kd.N_far (Kd.N_far (Kd.N_far F73_.out (p := ⟨b5, 0, none⟩) (fun k hk => hk.1) (.slice P9 X2.s.length p9)) (p := ⟨b5, 1, none⟩) (fun k hk => hk.1) (.slice Q9 X2.p.length q9)) (p := ⟨b5, 2, none⟩) (fun k hk => hk.1) (.int .i64 X2.left)) (p := ⟨b5, 3, none⟩) (fun k hk => hk.1) (.bool X2.st))
            have F81_ := Aside0.mk (blk_far (blk_far (blk_far (blk_far F70_.out (p := ⟨b5, 0, none⟩) (by have := HE14.out; simp; omega) (.slice P9 X2.s.length p9)) (p := ⟨b5, 1, none⟩) (by have := HE14.out; simp; omega) (.slice Q9 X2.p.length q9)) (p := ⟨b5, 2, none⟩) (by have := HE14.out; simp; omega) (.int .i64 X2.left)) (p := ⟨b5, 3, none⟩) (by have := HE14.out; simp; omega) (.bool X2.st))
            have F82_ := Aside0.mk (DiskF.far (DiskF.far (DiskF.far (DiskF.far F74_.out (p := ⟨b5, 0, none⟩) (fun k hk => hk.1.1) (.slice P9 X2.s.length p9)) (p := ⟨b5, 1, none⟩) (fun k hk => hk.1.1) (.slice Q9 X2.p.length q9)) (p := ⟨b5, 2, none⟩) (fun k hk => hk.1.1) (.int .i64 X2.left)) (p := ⟨b5, 3, none⟩) (fun k hk => hk.1.1) (.bool X2.st))
            clear F64_ F65_ F66_ F67_ F68_ F73_ F70_ F74_
            generalize ((((w11.setCell ⟨b5, 0, none⟩ (.slice P9 X2.s.length p9)).setCell ⟨b5, 1, none⟩ (.slice Q9 X2.p.length q9)).setCell ⟨b5, 2, none⟩ (.int .i64 X2.left)).setCell ⟨b5, 3, none⟩ (.bool X2.st)) = w12 at *
            have y1 := (blk_cell F81_.out 1).trans rfl
            have y2 := (blk_cell F81_.out 2).trans rfl
            have hal : m < (applyA wt base).length := by rw [applyA_len]; have := HI.out; omega
            have z1 := arr_cell F77_.out m hal
            have zf1 := blk_frozen F77_.out m
            have hmt := HMT.out
            have hwu : IntKind.u8.wrap (m : Int) = (m : Int) := wraps_u8 m (by omega)
            have hbx0 := HBX.out.1
            have hbx1 := HBX.out.2.1
            have hm4i : (m : Int) < 4 := by omega
            go_upto_region 22 with (fail)
            clear y1 y2 z1 zf1 hmt hwu hbx0 hbx1 hm4i hal
            have F83_ := Aside0.mk (Below.setCell (p := ⟨b8, m, none⟩) F75_.out HD.out.2.2.2.2 (.int .u8 x.f2))
            have F84_ := Aside0.mk (blk_far F76_.out (p := ⟨b8, m, none⟩) (by have := HD.out; simp; omega) (.int .u8 x.f2))
            have F85_ := Aside0.mk (show (w12.setCell ⟨b8, m, none⟩ (.int .u8 x.f2)).heap[b8]? = some (.cells (nums .u8 ((applyA wt base).set m x.f2)).toArray 55 (0, 0)) from (arr_set F77_.out m x.f2))
            have F86_ := Aside0.mk (blk_far F78_.out (p := ⟨b8, m, none⟩) (by have := HD.out; simp; omega) (.int .u8 x.f2))
            have F87_ := Aside0.mk (blk_far F79_.out (p := ⟨b8, m, none⟩) (by have := HD.out; simp; omega) (.int .u8 x.f2))
            have F88_ := Aside0.mk (Kd.N_far F80_.out (p := ⟨b8, m, none⟩) (fun k hk => hk.2.1) (.int .u8 x.f2))
            have F89_ := Aside0.mk (blk_far F81_.out (p := ⟨b8, m, none⟩) (by have := HE14.out; simp; omega) (.int .u8 x.f2))
            have F90_ := Aside0.mk (DiskF.far F82_.out (p := ⟨b8, m, none⟩) (fun k hk => hk.1.2.1) (.int .u8 x.f2))
            clear F75_ F76_ F77_ F78_ F79_ F80_ F81_ F82_
            generalize (w12.setCell ⟨b8, m, none⟩ (.int .u8 x.f2)) = w13 at *
            have y0 := (blk_cell F89_.out 0).trans rfl
            have y1 := (blk_cell F89_.out 1).trans rfl
            have y2 := (blk_cell F89_.out 2).trans rfl
            go_upto_region 38 with ((with_reducible refine gate_builtin (b := .append) (xs := #[.tmp 80, .tmp 82]) rfl ?_); refine Kd.N_append k57 (w0 := w) w.heap.size rfl (.tmp 80) (.tmp 82) 54 57 (.agg #[.bool false, .int .u8 0, .int .u8 0]) 3 rfl Try.underlying54 info57 rfl (by decide) (by decide) (.slice A11 wt.length c11) wt x [.bool x.f0, .int .u8 x.f1, .int .u8 x.f2] (ok4 b5 b8 b9 b10) (fun _ => False) rfl rfl (k57_mkF _ _ x) (fun _ h => h.elim) (ok4_fresh ⟨blk_lt F84_.out, blk_lt F85_.out, blk_lt F86_.out, blk_lt F87_.out⟩) F88_.out F83_.out (Below.size F83_.out) (by have := HI.out; have := HL40.out; omega) ?_; intro v1 w14 hn hb hg hat; have F91_ := Aside0.mk (box_grown F84_.out F88_.out (by decide) hg); have F92_ := Aside0.mk (box_grown F85_.out F88_.out (by decide) hg); have F93_ := Aside0.mk (box_grown F86_.out F88_.out (by decide) hg); have F94_ := Aside0.mk (box_grown F87_.out F88_.out (by decide) hg); have F95_ := Aside0.mk (DiskF.after F90_.out hg hat); obtain ⟨A12, c12, rfl⟩ := Kd.N_slice hn; have F96_ := Aside0.mk hn; have F97_ := Aside0.mk hb; clear hn hb hg hat y0 y1 y2 F83_ F88_ F90_ F84_ F85_ F86_ F87_)
            clear F89_
            have hX2e := hX2.out
            subst hX2e
            have HAS := Aside0.mk (show (applyA wt base).set m x.f2 = applyA (wt ++ [x]) base from by rw [applyA_snoc, HM.out.2])
            rw [HAS.out] at F92_
            have y0 := (blk_cell F91_.out 0).trans rfl
            have y1 := (blk_cell F91_.out 1).trans rfl
            have y2 := (blk_cell F91_.out 2).trans rfl
            have y3 := (blk_cell F91_.out 3).trans rfl
            have z0 := arr_cell F92_.out 0 (by rw [applyA_len]; have := HI.out; omega)
            have z1 := arr_cell F92_.out 1 (by rw [applyA_len]; have := HI.out; omega)
            have z2 := arr_cell F92_.out 2 (by rw [applyA_len]; have := HI.out; omega)
            have z3 := arr_cell F92_.out 3 (by rw [applyA_len]; have := HI.out; omega)
            go_upto_region 14 with (go_at_call 43; (refine (hold_says _ (hisD base (wt ++ [x]) (rm : Int)) (applyA (wt ++ [x]) base) (applyA (wt ++ [x]) base) _ (by rw [applyA_len]; have := HI.out; omega) (by rw [applyA_len]; have := HI.out; omega) (his_read HI.out.2.2.2.2 (by have := HI.out; have := HL40.out; rw [List.length_append]; simp; omega) (by omega) (by have := HI.out; omega)) (DiskF.V F95_.out)).mono ?_); rintro e w15 ⟨rfl, hb⟩; have F98_ := Aside0.mk (below_step F97_.out hb); have F99_ := Aside0.mk (blk_below F91_.out hb); have F100_ := Aside0.mk (blk_below F92_.out hb); have F101_ := Aside0.mk (blk_below F93_.out hb); have F102_ := Aside0.mk (blk_below F94_.out hb); have F103_ := Aside0.mk (Kd.N_below F96_.out hb); have F104_ := Aside0.mk (DiskF.below F95_.out hb); clear F97_ F91_ F92_ F93_ F94_ F96_ F95_; clear hb; clear y0 y1 y2 y3 z0 z1 z2 z3)
            go_wp2
            go_roundg (gk - 1)
            case measure => have := HI.out; omega
            case rel => exact ⟨i + 1, rm, base, wt ++ [x], P9, p9, Q9, q9, A12, c12, by rw [List.length_append]; rfl, rfl, by rw [hw.out], ⟨by have := HI.out; rw [List.length_append]; simp; omega⟩, ⟨fun y hy => by rcases List.mem_append.1 hy with hy | hy; exact HWB.out y hy; rw [List.mem_singleton.1 hy]; exact HBX.out⟩, ⟨F98_.out⟩, ⟨F99_.out⟩, ⟨F104_.out⟩, ⟨F100_.out⟩, ⟨F101_.out⟩, ⟨F102_.out⟩, ⟨F103_.out⟩⟩
          | true =>
            have HB14 := Aside0.mk (show b5 < wr.heap.size ∧ b8 < wr.heap.size ∧ b9 < wr.heap.size ∧ b10 < wr.heap.size from ⟨blk_lt Gb5.out, blk_lt Gb8.out, blk_lt Gb9.out, blk_lt Gb10.out⟩)
            have HS := Aside0.mk hsy
            clear hsy
            go_upto_region 16 with (fail)
            clear ha0 ha1 ha2
            have F105_ := Aside0.mk (below_alloc GB.out (.cells #[.bool x.f0, .int .u8 x.f1, .int .u8 x.f2] 57))
            have F106_ := Aside0.mk (blk_alloc Gb5.out (.cells #[.bool x.f0, .int .u8 x.f1, .int .u8 x.f2] 57))
            have F107_ := Aside0.mk (DiskF.below Gx.out (below_alloc (Below.refl _ _) (.cells #[.bool x.f0, .int .u8 x.f1, .int .u8 x.f2] 57)))
            have F108_ := Aside0.mk (blk_alloc Gb8.out (.cells #[.bool x.f0, .int .u8 x.f1, .int .u8 x.f2] 57))
            have F109_ := Aside0.mk (blk_alloc Gb9.out (.cells #[.bool x.f0, .int .u8 x.f1, .int .u8 x.f2] 57))
            have F110_ := Aside0.mk (blk_alloc Gb10.out (.cells #[.bool x.f0, .int .u8 x.f1, .int .u8 x.f2] 57))
            have F111_ := Aside0.mk (Kd.N_alloc GN.out (.cells #[.bool x.f0, .int .u8 x.f1, .int .u8 x.f2] 57))
            clear GB Gb5 Gx Gb8 Gb9 Gb10 GN
            have F112_ := Aside0.mk (blk_new wr (.cells #[.bool x.f0, .int .u8 x.f1, .int .u8 x.f2] 57))
            generalize wr.alloc (.cells #[.bool x.f0, .int .u8 x.f1, .int .u8 x.f2] 57) = w8 at *
            generalize wr.heap.size = b14 at *
            have q0 := (blk_cell F112_.out 0).trans (show some (Value.bool x.f0) = some (Value.bool true) from by rw [HS.out])
            go_upto_region 23 with (fail)
            clear q0
            clear F112_
            have HFR := Aside0.mk (okH_fresh ⟨blk_lt F106_.out, blk_lt F108_.out, blk_lt F109_.out, blk_lt F110_.out⟩ F111_.out)
            have y0 := (blk_cell F106_.out 0).trans rfl
            have y1 := (blk_cell F106_.out 1).trans rfl
            have y2 := (blk_cell F106_.out 2).trans rfl
            have y3 := (blk_cell F106_.out 3).trans rfl
            by_cases hst : rm < wt.length
            · skip
              obtain ⟨TT, hTT⟩ : ∃ TT, hisT base wt rm = TT := ⟨_, rfl⟩
              have HY := Aside0.mk (show syncD X = (TT, 450) from by rw [← hX.out, ← hTT]; exact his_stop HI.out.2.2.2.2 (by have := HI.out; have := HL40.out; omega) (by have := HI.out; omega) hst)
              replace hTT := Aside0.mk hTT
              have hst1 : decide (rm < wt.length) = true := decide_eq_true hst
              go_upto_region 24 with (go_at_call 30; (refine ((syncF_says (okH b5 b8 b9 b10 (.slice A11 wt.length c11)) _ X _ F107_.out).mono (fun e w' h => DEF.of h HY.out)).mono ?_); rintro e w9 ⟨⟨P7, p7, Q7, q7, rfl, hd⟩, hb⟩; have F113_ := Aside0.mk (below_step F105_.out hb); have F114_ := Aside0.mk (blk_below F106_.out hb); have F115_ := Aside0.mk (DiskF.below F107_.out hb); have F116_ := Aside0.mk (blk_below F108_.out hb); have F117_ := Aside0.mk (blk_below F109_.out hb); have F118_ := Aside0.mk (blk_below F110_.out hb); have F119_ := Aside0.mk (Kd.N_below F111_.out hb); clear F105_ F106_ F107_ F108_ F109_ F110_ F111_; clear F115_; have F120_ := Aside0.mk (DiskF.mono (ok' := (okH b5 b8 b9 b10 (.slice A11 wt.length c11))) hd (fun k hk => Or.elim hk id (fun h => HFR.out k h))); clear hd hb)
              clear y0 y1 y2 y3
              clear HFR
              have H17_ := Aside0.mk (show w9.heap.size ≠ b5 ∧ w9.heap.size ≠ b8 ∧ w9.heap.size ≠ b9 ∧ w9.heap.size ≠ b10 from ⟨Nat.ne_of_gt (blk_lt F114_.out), Nat.ne_of_gt (blk_lt F116_.out), Nat.ne_of_gt (blk_lt F117_.out), Nat.ne_of_gt (blk_lt F118_.out)⟩)
              have F121_ := Aside0.mk (below_alloc F113_.out (.cells #[.slice P7 TT.s.length p7, .slice Q7 TT.p.length q7, .int .i64 TT.left, .bool TT.st] 25))
              have F122_ := Aside0.mk (blk_alloc F114_.out (.cells #[.slice P7 TT.s.length p7, .slice Q7 TT.p.length q7, .int .i64 TT.left, .bool TT.st] 25))
              have F123_ := Aside0.mk (blk_alloc F116_.out (.cells #[.slice P7 TT.s.length p7, .slice Q7 TT.p.length q7, .int .i64 TT.left, .bool TT.st] 25))
              have F124_ := Aside0.mk (blk_alloc F117_.out (.cells #[.slice P7 TT.s.length p7, .slice Q7 TT.p.length q7, .int .i64 TT.left, .bool TT.st] 25))
              have F125_ := Aside0.mk (blk_alloc F118_.out (.cells #[.slice P7 TT.s.length p7, .slice Q7 TT.p.length q7, .int .i64 TT.left, .bool TT.st] 25))
              have F126_ := Aside0.mk (Kd.N_alloc F119_.out (.cells #[.slice P7 TT.s.length p7, .slice Q7 TT.p.length q7, .int .i64 TT.left, .bool TT.st] 25))
              have F127_ := Aside0.mk (DiskF.below F120_.out (below_alloc (Below.refl _ _) (.cells #[.slice P7 TT.s.length p7, .slice Q7 TT.p.length q7, .int .i64 TT.left, .bool TT.st] 25)))
              clear F113_ F114_ F116_ F117_ F118_ F119_ F120_
              have F128_ := Aside0.mk (blk_new w9 (.cells #[.slice P7 TT.s.length p7, .slice Q7 TT.p.length q7, .int .i64 TT.left, .bool TT.st] 25))
              generalize w9.alloc (.cells #[.slice P7 TT.s.length p7, .slice Q7 TT.p.length q7, .int .i64 TT.left, .bool TT.st] 25) = w10 at *
              generalize w9.heap.size = b17 at *
              have HB17 := Aside0.mk (show b17 ≠ b5 ∧ b17 ≠ b8 ∧ b17 ≠ b9 ∧ b17 ≠ b10 from H17_.out)
              go_wp2_with (fail)
              go_loopg [20] (rm + 1) (fun kq v20 w' => ∃ k : Nat, v20 = .int .i64 k ∧ Aside0 (k ≤ (rm + 1) ∧ kq + k = (rm + 1)) ∧ Aside0 (Below w.heap.size w w') ∧ Aside0 (w'.heap[b5]? = some (.cells #[.slice P5 X.s.length p5, .slice Q5 X.p.length q5, .int .i64 X.left, .bool X.st] 25 (0, 0))) ∧ Aside0 (w'.heap[b8]? = some (.cells (nums .u8 (applyA wt base)).toArray 55 (0, 0))) ∧ Aside0 (w'.heap[b17]? = some (.cells #[.slice P7 TT.s.length p7, .slice Q7 TT.p.length q7, .int .i64 TT.left, .bool TT.st] 25 (0, 0))) ∧ Aside0 (DiskF w' (okH b5 b8 b9 b10 (.slice A11 wt.length c11)) (.agg #[.slice P7 TT.s.length p7, .slice Q7 TT.p.length q7, .int .i64 TT.left, .bool TT.st]) TT) ∧ Aside0 (w'.heap[b9]? = some (.cells (nums .u8 (applyA (wt.take k) base)).toArray 55 (0, 0))) ∧ Aside0 (w'.heap[b10]? = some (.cells (nums .u8 (applyA (wt.take (min k rm)) base)).toArray 55 (0, 0))) ∧ Aside0 (Kd.N k57 57 w' w.heap.size (ok4 b5 b8 b9 b10) (.slice A11 wt.length c11) wt))
              case atStart => exact ⟨0, rfl, ⟨by omega⟩, ⟨F121_.out⟩, ⟨F122_.out⟩, ⟨F123_.out⟩, ⟨F128_.out⟩, ⟨F127_.out⟩, ⟨by rw [List.take_zero]; exact F124_.out⟩, ⟨by rw [Nat.zero_min, List.take_zero]; exact F125_.out⟩, ⟨F126_.out⟩⟩
              clear F121_ F122_ F123_ F128_ F127_ F124_ F125_ F126_
              obtain ⟨k, rfl, HK, KB, Kb5, Kb8, Kb17, Kt, Kb9, Kb10, KN⟩ := hrel
              by_cases hk : k < (rm + 1)
              · skip
                have hkl : k < wt.length := by omega
                have hkr : k ≤ rm := by omega
                have hk1 : decide (k < wt.length) = true := decide_eq_true hkl
                have hk2 : decide (k ≤ rm) = true := decide_eq_true hkr
                obtain ⟨ad2, hA2, hc1, hc2⟩ := wait_get KN.out k hkl
                subst hA2
                have hby := HWB.out _ (List.getElem_mem hkl)
                rw [show wt[k] = wt.getD k z57 from by simp [List.getD_eq_getElem?_getD, List.getElem?_eq_getElem hkl]] at hby
                have HTK := fun b => applyA_take wt k hkl b
                obtain ⟨y, hye⟩ : ∃ y, wt.getD k z57 = y := ⟨_, rfl⟩
                rw [hye] at hc1 hc2 hby HTK
                have hYE := Aside0.mk hye
                clear hye
                replace HTK := Aside0.mk HTK
                have HBY2 := Aside0.mk hby
                clear hby
                obtain ⟨m, hm, hm4, hmt, hmn⟩ := rem4 HBY2.out.1 HBY2.out.2.1
                have HMT := Aside0.mk hmt
                have HMN := Aside0.mk hmn
                clear hm hmt hmn
                go_upto_region 28 with (fail)
                have hc1_ := Aside0.mk hc1
                have hc2_ := Aside0.mk hc2
                clear hc1 hc2
                refine start_ (n := 13) (S := fun w' => Below wr.drew.heap.size wr.drew w') (ds := [12]) #[false, false, false, false, false, false, false, false, false, false, false, false, false] (by kernel_rfl) rfl rfl (Below.refl _ _) (fun hHeld => ?_)
                have F129_ := Aside0.mk (below_drew1 KB.out)
                have F130_ := Aside0.mk (blk_drew Kb5.out)
                have F131_ := Aside0.mk (blk_drew Kb8.out)
                have F132_ := Aside0.mk (blk_drew Kb17.out)
                have F133_ := Aside0.mk (DiskF.below Kt.out (below_drew1 (Below.refl _ _)))
                have F134_ := Aside0.mk (blk_drew Kb9.out)
                have F135_ := Aside0.mk (blk_drew Kb10.out)
                have F136_ := Aside0.mk (Kd.N_drew KN.out)
                have F137_ := Aside0.mk ((Below.cell (below_drew1 (Below.refl _ _)) (World.block_lt_of_cell? _ _ hc1_.out)).trans hc1_.out)
                have F138_ := Aside0.mk ((Below.cell (below_drew1 (Below.refl _ _)) (World.block_lt_of_cell? _ _ hc2_.out)).trans hc2_.out)
                clear KB Kb5 Kb8 Kb17 Kt Kb9 Kb10 KN hc1_ hc2_
                generalize wr.drew = w11 at *
                have hold_c1 := F137_.out
                have hold_c2 := F138_.out
                have hmt := HMT.out
                have hwu : IntKind.u8.wrap (m : Int) = (m : Int) := wraps_u8 m (by omega)
                have hbx0 := HBY2.out.1
                have hbx1 := HBY2.out.2.1
                have hm4i : (m : Int) < 4 := by omega
                refine pure_ (i := 0) (N := some 104) (v := ?_) (a' := ?_) #[true, false, false, false, false, false, false, false, false, false, false, false, false] rfl rfl (by kernel_rfl) (fun _ _ _ h => h) (Or.inl ⟨by rfl, ?_⟩) ?_ ?_
                rotate_left
                · intro w'
                  go_simp
                  with_reducible rfl
                rotate_left
                · simp only [Act.put, List.setIfInBounds_toArray, List.set_cons_zero, List.set_cons_succ, i64_w, i32_w]
                  rfl
                refine pure_ (i := 1) (N := some 105) (v := ?_) (a' := ?_) #[true, true, false, false, false, false, false, false, false, false, false, false, false] rfl rfl (by kernel_rfl) (fun _ _ _ h => h) (Or.inl ⟨by rfl, ?_⟩) ?_ ?_
                rotate_left
                · intro w'
                  go_simp
                  with_reducible rfl
                rotate_left
                · simp only [Act.put, List.setIfInBounds_toArray, List.set_cons_zero, List.set_cons_succ, i64_w, i32_w]
                  rfl
                refine pure_ (i := 2) (N := some 106) (v := ?_) (a' := ?_) #[true, true, true, false, false, false, false, false, false, false, false, false, false] rfl rfl (by kernel_rfl) (fun _ _ _ h => h) (Or.inl ⟨by rfl, ?_⟩) ?_ ?_
                rotate_left
                · intro w'
                  go_simp
                  with_reducible rfl
                rotate_left
                · simp only [Act.put, List.setIfInBounds_toArray, List.set_cons_zero, List.set_cons_succ, i64_w, i32_w]
                  rfl
                refine pure_ (i := 3) (N := some 107) (v := ?_) (a' := ?_) #[true, true, true, true, false, false, false, false, false, false, false, false, false] rfl rfl (by kernel_rfl) (fun _ _ _ h => h) (Or.inl ⟨by rfl, ?_⟩) ?_ ?_
                rotate_left
                · intro w'
                  go_simp
                  with_reducible rfl
                rotate_left
                · simp only [Act.put, List.setIfInBounds_toArray, List.set_cons_zero, List.set_cons_succ, i64_w, i32_w]
                  rfl
                refine take_ (i := 4) (N := some 108) (v := ?_) (a' := ?_) #[true, true, true, true, true, false, false, false, false, false, false, false, false] rfl rfl (by kernel_rfl) (fun _ _ _ h => h) (Or.inl ⟨by rfl, ?_⟩) hHeld ?_ ?_
                rotate_left
                · rintro w' s0
                  have q0 := (Below.cell s0 (World.block_lt_of_cell? _ _ hold_c1)).trans hold_c1
                  go_simp
                  with_reducible rfl
                rotate_left
                · simp only [Act.put, List.setIfInBounds_toArray, List.set_cons_zero, List.set_cons_succ, i64_w, i32_w]
                  rfl
                refine pure_ (i := 5) (N := some 109) (v := ?_) (a' := ?_) #[true, true, true, true, true, true, false, false, false, false, false, false, false] rfl rfl (by kernel_rfl) (fun _ _ _ h => h) (Or.inl ⟨by rfl, ?_⟩) ?_ ?_
                rotate_left
                · intro w'
                  go_simp
                  with_reducible rfl
                rotate_left
                · simp only [Act.put, List.setIfInBounds_toArray, List.set_cons_zero, List.set_cons_succ, i64_w, i32_w]
                  rfl
                refine pure_ (i := 6) (N := some 110) (v := ?_) (a' := ?_) #[true, true, true, true, true, true, true, false, false, false, false, false, false] rfl rfl (by kernel_rfl) (fun _ _ _ h => h) (Or.inl ⟨by rfl, ?_⟩) ?_ ?_
                rotate_left
                · intro w'
                  go_simp
                  with_reducible rfl
                rotate_left
                · simp only [Act.put, List.setIfInBounds_toArray, List.set_cons_zero, List.set_cons_succ, i64_w, i32_w]
                  rfl
                refine pure_ (i := 7) (N := some 111) (v := ?_) (a' := ?_) #[true, true, true, true, true, true, true, true, false, false, false, false, false] rfl rfl (by kernel_rfl) (fun _ _ _ h => h) (Or.inl ⟨by rfl, ?_⟩) ?_ ?_
                rotate_left
                · intro w'
                  go_simp
                  with_reducible rfl
                rotate_left
                · simp only [Act.put, List.setIfInBounds_toArray, List.set_cons_zero, List.set_cons_succ, i64_w, i32_w]
                  rfl
                refine pure_ (i := 8) (N := some 112) (v := ?_) (a' := ?_) #[true, true, true, true, true, true, true, true, true, false, false, false, false] rfl rfl (by kernel_rfl) (fun _ _ _ h => h) (Or.inl ⟨by rfl, ?_⟩) ?_ ?_
                rotate_left
                · intro w'
                  go_simp
                  with_reducible rfl
                rotate_left
                · simp only [Act.put, List.setIfInBounds_toArray, List.set_cons_zero, List.set_cons_succ, i64_w, i32_w]
                  rfl
                refine pure_ (i := 9) (N := some 113) (v := ?_) (a' := ?_) #[true, true, true, true, true, true, true, true, true, true, false, false, false] rfl rfl (by kernel_rfl) (fun _ _ _ h => h) (Or.inl ⟨by rfl, ?_⟩) ?_ ?_
                rotate_left
                · intro w'
                  go_simp
                  with_reducible rfl
                rotate_left
                · simp only [Act.put, List.setIfInBounds_toArray, List.set_cons_zero, List.set_cons_succ, i64_w, i32_w]
                  rfl
                refine take_ (i := 10) (N := some 114) (v := ?_) (a' := ?_) #[true, true, true, true, true, true, true, true, true, true, true, false, false] rfl rfl (by kernel_rfl) (fun _ _ _ h => h) (Or.inl ⟨by rfl, ?_⟩) hHeld ?_ ?_
                rotate_left
                · rintro w' s0
                  have q0 := (Below.cell s0 (World.block_lt_of_cell? _ _ hold_c2)).trans hold_c2
                  go_simp
                  with_reducible rfl
                rotate_left
                · simp only [Act.put, List.setIfInBounds_toArray, List.set_cons_zero, List.set_cons_succ, i64_w, i32_w]
                  rfl
                refine pure_ (i := 11) (N := some 115) (v := ?_) (a' := ?_) #[true, true, true, true, true, true, true, true, true, true, true, true, false] rfl rfl (by kernel_rfl) (fun _ _ _ h => h) (Or.inl ⟨by rfl, ?_⟩) ?_ ?_
                rotate_left
                · intro w'
                  go_simp
                  with_reducible rfl
                rotate_left
                · simp only [Act.put, List.setIfInBounds_toArray, List.set_cons_zero, List.set_cons_succ, i64_w, i32_w]
                  rfl
                have hal : m < (applyA (wt.take k) base).length := by rw [applyA_len]; have := HI.out; omega
                have z1 := arr_cell F134_.out m hal
                have zf1 := blk_frozen F134_.out m
                refine last_ (i := 12) (N := none) #[true, true, true, true, true, true, true, true, true, true, true, true, true] rfl rfl (by kernel_rfl) (by decide) (fun K hK => ?_)
                refine skip_ (w1 := ?_) (by rfl) rfl ?_ ?_
                rotate_left
                · go_simp
                  rfl
                refine hK.out _ _ ?_
                clear hK K
                clear z1 zf1 hal hmt hwu hbx0 hbx1 hm4i hold_c1 hold_c2
                have HDL := Aside0.mk (show w.heap.size ≤ b9 by have := HD.out; omega)
                refine done_ (by kernel_rfl) ?_
                have F139_ := Aside0.mk (Below.setCell (p := ⟨b9, m, none⟩) F129_.out (HDL.out) (.int .u8 y.f2))
                have F140_ := Aside0.mk (blk_far F130_.out (p := ⟨b9, m, none⟩) (by have := HD.out; have := HB17.out; simp; omega) (.int .u8 y.f2))
                have F141_ := Aside0.mk (blk_far F131_.out (p := ⟨b9, m, none⟩) (by have := HD.out; have := HB17.out; simp; omega) (.int .u8 y.f2))
                have F142_ := Aside0.mk (blk_far F132_.out (p := ⟨b9, m, none⟩) (by have := HD.out; have := HB17.out; simp; omega) (.int .u8 y.f2))
                have F143_ := Aside0.mk (DiskF.far F133_.out (p := ⟨b9, m, none⟩) (fun k hk => hk.1.2.2.1) (.int .u8 y.f2))
                have F144_ := Aside0.mk (show (w11.setCell ⟨b9, m, none⟩ (.int .u8 y.f2)).heap[b9]? = some (.cells (nums .u8 ((applyA (wt.take k) base).set m y.f2)).toArray 55 (0, 0)) from (arr_set F134_.out m y.f2))
                have F145_ := Aside0.mk (blk_far F135_.out (p := ⟨b9, m, none⟩) (by have := HD.out; have := HB17.out; simp; omega) (.int .u8 y.f2))
                have F146_ := Aside0.mk (Kd.N_far F136_.out (p := ⟨b9, m, none⟩) (fun k hk => hk.2.2.1) (.int .u8 y.f2))
                clear F129_ F130_ F131_ F132_ F133_ F134_ F135_ F136_
                generalize (w11.setCell ⟨b9, m, none⟩ (.int .u8 y.f2)) = w12 at *
                clear hHeld HDL F137_ F138_
                rw [← HMN.out, ← HTK.out base] at F144_
                have hwk := Aside0.mk (show wrap64 ((k : Int) + 1) = ((k + 1 : Nat) : Int) by have := HI.out; unfold wrap64; omega)
                by_cases hkr2 : k < rm
                · skip
                  have hk3 : decide (k < rm) = true := decide_eq_true hkr2
                  go_upto_region 30 with (fail)
                  obtain ⟨ad3, hA3, hc1, hc2⟩ := wait_get F146_.out k hkl
                  injection hA3 with hA3
                  subst hA3
                  rw [hYE.out] at hc1 hc2
                  have hc1_ := Aside0.mk hc1
                  have hc2_ := Aside0.mk hc2
                  clear hc1 hc2
                  rw [show min k rm = k from Nat.min_eq_left hkr] at F145_
                  refine start_ (n := 13) (S := fun w' => Below w12.drew.heap.size w12.drew w') (ds := [12]) #[false, false, false, false, false, false, false, false, false, false, false, false, false] (by kernel_rfl) rfl rfl (Below.refl _ _) (fun hHeld => ?_)
                  have F147_ := Aside0.mk (below_drew1 F139_.out)
                  have F148_ := Aside0.mk (blk_drew F140_.out)
                  have F149_ := Aside0.mk (blk_drew F141_.out)
                  have F150_ := Aside0.mk (blk_drew F142_.out)
                  have F151_ := Aside0.mk (DiskF.below F143_.out (below_drew1 (Below.refl _ _)))
                  have F152_ := Aside0.mk (blk_drew F144_.out)
                  have F153_ := Aside0.mk (blk_drew F145_.out)
                  have F154_ := Aside0.mk (Kd.N_drew F146_.out)
                  have F155_ := Aside0.mk ((Below.cell (below_drew1 (Below.refl _ _)) (World.block_lt_of_cell? _ _ hc1_.out)).trans hc1_.out)
                  have F156_ := Aside0.mk ((Below.cell (below_drew1 (Below.refl _ _)) (World.block_lt_of_cell? _ _ hc2_.out)).trans hc2_.out)
                  clear F139_ F140_ F141_ F142_ F143_ F144_ F145_ F146_ hc1_ hc2_
                  generalize w12.drew = w13 at *
                  have hold_c1 := F155_.out
                  have hold_c2 := F156_.out
                  have hmt := HMT.out
                  have hwu : IntKind.u8.wrap (m : Int) = (m : Int) := wraps_u8 m (by omega)
                  have hbx0 := HBY2.out.1
                  have hbx1 := HBY2.out.2.1
                  have hm4i : (m : Int) < 4 := by omega
                  refine pure_ (i := 0) (N := some 119) (v := ?_) (a' := ?_) #[true, false, false, false, false, false, false, false, false, false, false, false, false] rfl rfl (by kernel_rfl) (fun _ _ _ h => h) (Or.inl ⟨by rfl, ?_⟩) ?_ ?_
                  rotate_left
                  · intro w'
                    go_simp
                    with_reducible rfl
                  rotate_left
                  · simp only [Act.put, List.setIfInBounds_toArray, List.set_cons_zero, List.set_cons_succ, i64_w, i32_w]
                    rfl
                  refine pure_ (i := 1) (N := some 120) (v := ?_) (a' := ?_) #[true, true, false, false, false, false, false, false, false, false, false, false, false] rfl rfl (by kernel_rfl) (fun _ _ _ h => h) (Or.inl ⟨by rfl, ?_⟩) ?_ ?_
                  rotate_left
                  · intro w'
                    go_simp
                    with_reducible rfl
                  rotate_left
                  · simp only [Act.put, List.setIfInBounds_toArray, List.set_cons_zero, List.set_cons_succ, i64_w, i32_w]
                    rfl
                  refine pure_ (i := 2) (N := some 121) (v := ?_) (a' := ?_) #[true, true, true, false, false, false, false, false, false, false, false, false, false] rfl rfl (by kernel_rfl) (fun _ _ _ h => h) (Or.inl ⟨by rfl, ?_⟩) ?_ ?_
                  rotate_left
                  · intro w'
                    go_simp
                    with_reducible rfl
                  rotate_left
                  · simp only [Act.put, List.setIfInBounds_toArray, List.set_cons_zero, List.set_cons_succ, i64_w, i32_w]
                    rfl
                  refine pure_ (i := 3) (N := some 122) (v := ?_) (a' := ?_) #[true, true, true, true, false, false, false, false, false, false, false, false, false] rfl rfl (by kernel_rfl) (fun _ _ _ h => h) (Or.inl ⟨by rfl, ?_⟩) ?_ ?_
                  rotate_left
                  · intro w'
                    go_simp
                    with_reducible rfl
                  rotate_left
                  · simp only [Act.put, List.setIfInBounds_toArray, List.set_cons_zero, List.set_cons_succ, i64_w, i32_w]
                    rfl
                  refine take_ (i := 4) (N := some 123) (v := ?_) (a' := ?_) #[true, true, true, true, true, false, false, false, false, false, false, false, false] rfl rfl (by kernel_rfl) (fun _ _ _ h => h) (Or.inl ⟨by rfl, ?_⟩) hHeld ?_ ?_
                  rotate_left
                  · rintro w' s0
                    have q0 := (Below.cell s0 (World.block_lt_of_cell? _ _ hold_c1)).trans hold_c1
                    go_simp
                    with_reducible rfl
                  rotate_left
                  · simp only [Act.put, List.setIfInBounds_toArray, List.set_cons_zero, List.set_cons_succ, i64_w, i32_w]
                    rfl
                  refine pure_ (i := 5) (N := some 124) (v := ?_) (a' := ?_) #[true, true, true, true, true, true, false, false, false, false, false, false, false] rfl rfl (by kernel_rfl) (fun _ _ _ h => h) (Or.inl ⟨by rfl, ?_⟩) ?_ ?_
                  rotate_left
                  · intro w'
                    go_simp
                    with_reducible rfl
                  rotate_left
                  · simp only [Act.put, List.setIfInBounds_toArray, List.set_cons_zero, List.set_cons_succ, i64_w, i32_w]
                    rfl
                  refine pure_ (i := 6) (N := some 125) (v := ?_) (a' := ?_) #[true, true, true, true, true, true, true, false, false, false, false, false, false] rfl rfl (by kernel_rfl) (fun _ _ _ h => h) (Or.inl ⟨by rfl, ?_⟩) ?_ ?_
                  rotate_left
                  · intro w'
                    go_simp
                    with_reducible rfl
                  rotate_left
                  · simp only [Act.put, List.setIfInBounds_toArray, List.set_cons_zero, List.set_cons_succ, i64_w, i32_w]
                    rfl
                  refine pure_ (i := 7) (N := some 126) (v := ?_) (a' := ?_) #[true, true, true, true, true, true, true, true, false, false, false, false, false] rfl rfl (by kernel_rfl) (fun _ _ _ h => h) (Or.inl ⟨by rfl, ?_⟩) ?_ ?_
                  rotate_left
                  · intro w'
                    go_simp
                    with_reducible rfl
                  rotate_left
                  · simp only [Act.put, List.setIfInBounds_toArray, List.set_cons_zero, List.set_cons_succ, i64_w, i32_w]
                    rfl
                  refine pure_ (i := 8) (N := some 127) (v := ?_) (a' := ?_) #[true, true, true, true, true, true, true, true, true, false, false, false, false] rfl rfl (by kernel_rfl) (fun _ _ _ h => h) (Or.inl ⟨by rfl, ?_⟩) ?_ ?_
                  rotate_left
                  · intro w'
                    go_simp
                    with_reducible rfl
                  rotate_left
                  · simp only [Act.put, List.setIfInBounds_toArray, List.set_cons_zero, List.set_cons_succ, i64_w, i32_w]
                    rfl
                  refine pure_ (i := 9) (N := some 128) (v := ?_) (a' := ?_) #[true, true, true, true, true, true, true, true, true, true, false, false, false] rfl rfl (by kernel_rfl) (fun _ _ _ h => h) (Or.inl ⟨by rfl, ?_⟩) ?_ ?_
                  rotate_left
                  · intro w'
                    go_simp
                    with_reducible rfl
                  rotate_left
                  · simp only [Act.put, List.setIfInBounds_toArray, List.set_cons_zero, List.set_cons_succ, i64_w, i32_w]
                    rfl
                  refine take_ (i := 10) (N := some 129) (v := ?_) (a' := ?_) #[true, true, true, true, true, true, true, true, true, true, true, false, false] rfl rfl (by kernel_rfl) (fun _ _ _ h => h) (Or.inl ⟨by rfl, ?_⟩) hHeld ?_ ?_
                  rotate_left
                  · rintro w' s0
                    have q0 := (Below.cell s0 (World.block_lt_of_cell? _ _ hold_c2)).trans hold_c2
                    go_simp
                    with_reducible rfl
                  rotate_left
                  · simp only [Act.put, List.setIfInBounds_toArray, List.set_cons_zero, List.set_cons_succ, i64_w, i32_w]
                    rfl
                  refine pure_ (i := 11) (N := some 130) (v := ?_) (a' := ?_) #[true, true, true, true, true, true, true, true, true, true, true, true, false] rfl rfl (by kernel_rfl) (fun _ _ _ h => h) (Or.inl ⟨by rfl, ?_⟩) ?_ ?_
                  rotate_left
                  · intro w'
                    go_simp
                    with_reducible rfl
                  rotate_left
                  · simp only [Act.put, List.setIfInBounds_toArray, List.set_cons_zero, List.set_cons_succ, i64_w, i32_w]
                    rfl
                  have hal : m < (applyA (wt.take k) base).length := by rw [applyA_len]; have := HI.out; omega
                  have z1 := arr_cell F153_.out m hal
                  have zf1 := blk_frozen F153_.out m
                  refine last_ (i := 12) (N := none) #[true, true, true, true, true, true, true, true, true, true, true, true, true] rfl rfl (by kernel_rfl) (by decide) (fun K hK => ?_)
                  refine skip_ (w1 := ?_) (by rfl) rfl ?_ ?_
                  rotate_left
                  · go_simp
                    rfl
                  refine hK.out _ _ ?_
                  clear hK K
                  clear z1 zf1 hal hmt hwu hbx0 hbx1 hm4i hold_c1 hold_c2
                  have HDL := Aside0.mk (show w.heap.size ≤ b10 by have := HD.out; omega)
                  refine done_ (by kernel_rfl) ?_
                  have F157_ := Aside0.mk (Below.setCell (p := ⟨b10, m, none⟩) F147_.out (HDL.out) (.int .u8 y.f2))
                  have F158_ := Aside0.mk (blk_far F148_.out (p := ⟨b10, m, none⟩) (by have := HD.out; have := HB17.out; simp; omega) (.int .u8 y.f2))
                  have F159_ := Aside0.mk (blk_far F149_.out (p := ⟨b10, m, none⟩) (by have := HD.out; have := HB17.out; simp; omega) (.int .u8 y.f2))
                  have F160_ := Aside0.mk (blk_far F150_.out (p := ⟨b10, m, none⟩) (by have := HD.out; have := HB17.out; simp; omega) (.int .u8 y.f2))
                  have F161_ := Aside0.mk (DiskF.far F151_.out (p := ⟨b10, m, none⟩) (fun k hk => hk.1.2.2.2) (.int .u8 y.f2))
                  have F162_ := Aside0.mk (blk_far F152_.out (p := ⟨b10, m, none⟩) (by have := HD.out; have := HB17.out; simp; omega) (.int .u8 y.f2))
                  have F163_ := Aside0.mk (show (w13.setCell ⟨b10, m, none⟩ (.int .u8 y.f2)).heap[b10]? = some (.cells (nums .u8 ((applyA (wt.take k) base).set m y.f2)).toArray 55 (0, 0)) from (arr_set F153_.out m y.f2))
                  have F164_ := Aside0.mk (Kd.N_far F154_.out (p := ⟨b10, m, none⟩) (fun k hk => hk.2.2.2) (.int .u8 y.f2))
                  clear F147_ F148_ F149_ F150_ F151_ F152_ F153_ F154_
                  generalize (w13.setCell ⟨b10, m, none⟩ (.int .u8 y.f2)) = w14 at *
                  clear hHeld HDL F155_ F156_
                  rw [← HMN.out, ← HTK.out base] at F163_
                  go_wp2
                  go_roundg (gk - 1)
                  case measure => have := HK.out; omega
                  case rel => exact ⟨k + 1, by first | rw [hwk.out] | simp, ⟨by have := HK.out; omega⟩, ⟨F157_.out⟩, ⟨F158_.out⟩, ⟨F159_.out⟩, ⟨F160_.out⟩, ⟨F161_.out⟩, ⟨F162_.out⟩, ⟨by rw [Nat.min_eq_left (show k + 1 ≤ rm from hkr2)]; exact F163_.out⟩, ⟨F164_.out⟩⟩
                · skip
                  have hk3 : decide (k < rm) = false := decide_eq_false hkr2
                  go_wp2
                  go_roundg (gk - 1)
                  case measure => have := HK.out; omega
                  case rel => exact ⟨k + 1, by first | rw [hwk.out] | simp, ⟨by have := HK.out; omega⟩, ⟨F139_.out⟩, ⟨F140_.out⟩, ⟨F141_.out⟩, ⟨F142_.out⟩, ⟨F143_.out⟩, ⟨F144_.out⟩, ⟨by rw [show min (k + 1) rm = min k rm by omega]; exact F145_.out⟩, ⟨F146_.out⟩⟩
              · skip
                have hke : k = (rm + 1) := by have := HK.out; omega
                have HTS := Aside0.mk (show TT.st = true from by rw [← hTT.out]; rfl)
                have hk2 : decide (k ≤ rm) = false := decide_eq_false (by omega)
                have HKE := Aside0.mk hke
                clear hke
                have HHO := Aside0.mk (show HoldsD (restartD TT) (applyA (wt.take k) base) (applyA (wt.take (min k rm)) base) from by rw [HKE.out, Nat.min_eq_right (Nat.le_succ rm), ← hTT.out]; exact his_stop_read HI.out.2.2.2.2 (by have := HI.out; have := HL40.out; omega) hst)
                by_cases hkl : k < wt.length
                · skip
                  have hk1 : decide (k < wt.length) = true := decide_eq_true hkl
                  go_upto_region 32 with (fail)
                  refine start_ (n := 14) (S := fun w' => Below wr.drew.heap.size wr.drew w') (ds := []) #[false, false, false, false, false, false, false, false, false, false, false, false, false, false] (by kernel_rfl) rfl rfl (Below.refl _ _) (fun hHeld => ?_)
                  have F165_ := Aside0.mk (below_drew1 KB.out)
                  have F166_ := Aside0.mk (blk_drew Kb5.out)
                  have F167_ := Aside0.mk (blk_drew Kb8.out)
                  have F168_ := Aside0.mk (blk_drew Kb17.out)
                  have F169_ := Aside0.mk (DiskF.below Kt.out (below_drew1 (Below.refl _ _)))
                  have F170_ := Aside0.mk (blk_drew Kb9.out)
                  have F171_ := Aside0.mk (blk_drew Kb10.out)
                  have F172_ := Aside0.mk (Kd.N_drew KN.out)
                  clear KB Kb5 Kb8 Kb17 Kt Kb9 Kb10 KN
                  generalize wr.drew = w11 at *
                  have hold_b17 := F168_.out
                  have hold_b9 := F170_.out
                  have hold_b10 := F171_.out
                  have hold_t := F169_.out
                  refine pure_ (i := 0) (N := some 132) (v := ?_) (a' := ?_) #[true, false, false, false, false, false, false, false, false, false, false, false, false, false] rfl rfl (by kernel_rfl) (fun _ _ _ h => h) (Or.inl ⟨by rfl, ?_⟩) ?_ ?_
                  rotate_left
                  · intro w'
                    go_simp
                    with_reducible rfl
                  rotate_left
                  · simp only [Act.put, List.setIfInBounds_toArray, List.set_cons_zero, List.set_cons_succ, i64_w, i32_w]
                    rfl
                  refine pure_ (i := 1) (N := some 133) (v := ?_) (a' := ?_) #[true, true, false, false, false, false, false, false, false, false, false, false, false, false] rfl rfl (by kernel_rfl) (fun _ _ _ h => h) (Or.inl ⟨by rfl, ?_⟩) ?_ ?_
                  rotate_left
                  · intro w'
                    go_simp
                    with_reducible rfl
                  rotate_left
                  · simp only [Act.put, List.setIfInBounds_toArray, List.set_cons_zero, List.set_cons_succ, i64_w, i32_w]
                    rfl
                  refine pure_ (i := 2) (N := some 134) (v := ?_) (a' := ?_) #[true, true, true, false, false, false, false, false, false, false, false, false, false, false] rfl rfl (by kernel_rfl) (fun _ _ _ h => h) (Or.inl ⟨by rfl, ?_⟩) ?_ ?_
                  rotate_left
                  · intro w'
                    go_simp
                    with_reducible rfl
                  rotate_left
                  · simp only [Act.put, List.setIfInBounds_toArray, List.set_cons_zero, List.set_cons_succ, i64_w, i32_w]
                    rfl
                  refine pure_ (i := 3) (N := some 135) (v := ?_) (a' := ?_) #[true, true, true, true, false, false, false, false, false, false, false, false, false, false] rfl rfl (by kernel_rfl) (fun _ _ _ h => h) (Or.inl ⟨by rfl, ?_⟩) ?_ ?_
                  rotate_left
                  · intro w'
                    go_simp
                    with_reducible rfl
                  rotate_left
                  · simp only [Act.put, List.setIfInBounds_toArray, List.set_cons_zero, List.set_cons_succ, i64_w, i32_w]
                    rfl
                  refine take_ (i := 4) (N := some 136) (v := ?_) (a' := ?_) #[true, true, true, true, true, false, false, false, false, false, false, false, false, false] rfl rfl (by kernel_rfl) (fun _ _ _ h => h) (Or.inl ⟨by rfl, ?_⟩) hHeld ?_ ?_
                  rotate_left
                  · rintro w' s0
                    have hz := blk_below hold_b17 s0
                    have q3 := (blk_cell hz 3).trans (show some (Value.bool TT.st) = some (Value.bool true) from by rw [HTS.out])
                    go_simp
                    with_reducible rfl
                  rotate_left
                  · simp only [Act.put, List.setIfInBounds_toArray, List.set_cons_zero, List.set_cons_succ, i64_w, i32_w]
                    rfl
                  refine pure_ (i := 5) (N := some 137) (v := ?_) (a' := ?_) #[true, true, true, true, true, true, false, false, false, false, false, false, false, false] rfl rfl (by kernel_rfl) (fun _ _ _ h => h) (Or.inl ⟨by rfl, ?_⟩) ?_ ?_
                  rotate_left
                  · intro w'
                    go_simp
                    with_reducible rfl
                  rotate_left
                  · simp only [Act.put, List.setIfInBounds_toArray, List.set_cons_zero, List.set_cons_succ, i64_w, i32_w]
                    rfl
                  refine pure_ (i := 6) (N := some 138) (v := ?_) (a' := ?_) #[true, true, true, true, true, true, true, false, false, false, false, false, false, false] rfl rfl (by kernel_rfl) (fun _ _ _ h => h) (Or.inl ⟨by rfl, ?_⟩) ?_ ?_
                  rotate_left
                  · intro w'
                    go_simp
                    with_reducible rfl
                  rotate_left
                  · simp only [Act.put, List.setIfInBounds_toArray, List.set_cons_zero, List.set_cons_succ, i64_w, i32_w]
                    rfl
                  refine take_ (i := 7) (N := some 139) (v := ?_) (a' := ?_) #[true, true, true, true, true, true, true, true, false, false, false, false, false, false] rfl rfl (by kernel_rfl) (fun _ _ _ h => h) (Or.inl ⟨by rfl, ?_⟩) hHeld ?_ ?_
                  rotate_left
                  · rintro w' s0
                    have hz := blk_below hold_b17 s0
                    have yy0 := (blk_cell hz 0).trans rfl
                    have yy1 := (blk_cell hz 1).trans rfl
                    have yy2 := (blk_cell hz 2).trans rfl
                    have yy3 := (blk_cell hz 3).trans rfl
                    go_simp
                    with_reducible rfl
                  rotate_left
                  · simp only [Act.put, List.setIfInBounds_toArray, List.set_cons_zero, List.set_cons_succ, i64_w, i32_w]
                    rfl
                  refine take_ (i := 9) (N := some 141) (v := ?_) (a' := ?_) #[true, true, true, true, true, true, true, true, false, true, false, false, false, false] rfl rfl (by kernel_rfl) (fun _ _ _ h => h) (Or.inl ⟨by rfl, ?_⟩) hHeld ?_ ?_
                  rotate_left
                  · rintro w' s0
                    have hz := blk_below hold_b9 s0
                    have yy0 := arr_cell hz 0 (by rw [applyA_len]; have := HI.out; omega)
                    have yy1 := arr_cell hz 1 (by rw [applyA_len]; have := HI.out; omega)
                    have yy2 := arr_cell hz 2 (by rw [applyA_len]; have := HI.out; omega)
                    have yy3 := arr_cell hz 3 (by rw [applyA_len]; have := HI.out; omega)
                    go_simp
                    with_reducible rfl
                  rotate_left
                  · simp only [Act.put, List.setIfInBounds_toArray, List.set_cons_zero, List.set_cons_succ, i64_w, i32_w]
                    rfl
                  refine take_ (i := 10) (N := some 142) (v := ?_) (a' := ?_) #[true, true, true, true, true, true, true, true, false, true, true, false, false, false] rfl rfl (by kernel_rfl) (fun _ _ _ h => h) (Or.inl ⟨by rfl, ?_⟩) hHeld ?_ ?_
                  rotate_left
                  · rintro w' s0
                    have hz := blk_below hold_b10 s0
                    have yy0 := arr_cell hz 0 (by rw [applyA_len]; have := HI.out; omega)
                    have yy1 := arr_cell hz 1 (by rw [applyA_len]; have := HI.out; omega)
                    have yy2 := arr_cell hz 2 (by rw [applyA_len]; have := HI.out; omega)
                    have yy3 := arr_cell hz 3 (by rw [applyA_len]; have := HI.out; omega)
                    go_simp
                    with_reducible rfl
                  rotate_left
                  · simp only [Act.put, List.setIfInBounds_toArray, List.set_cons_zero, List.set_cons_succ, i64_w, i32_w]
                    rfl
                  refine one_ (i := 8) (N := some 140) #[true, true, true, true, true, true, true, true, true, true, true, false, false, false] rfl rfl (by kernel_rfl) (by decide) (fun K hK => ?_)
                  refine goes_ Try.func24 (by kernel_rfl) rfl #[(.agg #[.slice P7 TT.s.length p7, .slice Q7 TT.p.length q7, .int .i64 TT.left, .bool TT.st])] (by rfl) rfl rfl (by (try simp only [List.map_toArray, List.map_cons, List.map_nil]); first | done | rfl) ?_
                  refine (restart_says _ TT _ (DiskF.V (DiskF.below hold_t hHeld))).mono ?_
                  rintro e w_r ⟨⟨v_r, rfl, hdr⟩, hb⟩
                  refine ⟨_, rfl, ?_⟩
                  refine hK.out _ _ (below_step hHeld hb) (fun hHeld => ?_)
                  clear hK K
                  refine norm_ (a' := ?_) ?_ ?_
                  rotate_left
                  · show Act.put _ (some 140) _ = _
                    simp only [Act.put, List.setIfInBounds_toArray, List.set_cons_zero, List.set_cons_succ, i64_w, i32_w]
                    rfl
                  refine one_ (i := 11) (N := some 143) #[true, true, true, true, true, true, true, true, true, true, true, true, false, false] rfl rfl (by kernel_rfl) (by decide) (fun K hK => ?_)
                  refine goes_ Try.func43 (by kernel_rfl) rfl #[v_r, (.agg #[.int .u8 ((applyA (wt.take k) base).getD 0 0), .int .u8 ((applyA (wt.take k) base).getD 1 0), .int .u8 ((applyA (wt.take k) base).getD 2 0), .int .u8 ((applyA (wt.take k) base).getD 3 0)]), (.agg #[.int .u8 ((applyA (wt.take (min k rm)) base).getD 0 0), .int .u8 ((applyA (wt.take (min k rm)) base).getD 1 0), .int .u8 ((applyA (wt.take (min k rm)) base).getD 2 0), .int .u8 ((applyA (wt.take (min k rm)) base).getD 3 0)])] (by rfl) rfl rfl (by (try simp only [List.map_toArray, List.map_cons, List.map_nil]); first | done | rfl) ?_
                  refine (hold_says v_r (restartD TT) (applyA (wt.take k) base) (applyA (wt.take (min k rm)) base) _ (by rw [applyA_len]; have := HI.out; omega) (by rw [applyA_len]; have := HI.out; omega) HHO.out hdr).mono ?_
                  rintro e w_h ⟨rfl, hb⟩
                  refine ⟨_, rfl, ?_⟩
                  refine hK.out _ _ (below_step hHeld hb) (fun hHeld => ?_)
                  clear hK K
                  refine norm_ (a' := ?_) ?_ ?_
                  rotate_left
                  · show Act.put _ (some 143) _ = _
                    simp only [Act.put, List.setIfInBounds_toArray, List.set_cons_zero, List.set_cons_succ, i64_w, i32_w]
                    rfl
                  refine pure_ (i := 12) (N := some 144) (v := ?_) (a' := ?_) #[true, true, true, true, true, true, true, true, true, true, true, true, true, false] rfl rfl (by kernel_rfl) (fun _ _ _ h => h) (Or.inl ⟨by rfl, ?_⟩) ?_ ?_
                  rotate_left
                  · intro w'
                    go_simp
                    with_reducible rfl
                  rotate_left
                  · simp only [Act.put, List.setIfInBounds_toArray, List.set_cons_zero, List.set_cons_succ, i64_w, i32_w]
                    rfl
                  refine pure_ (i := 13) (N := some 4) (v := ?_) (a' := ?_) #[true, true, true, true, true, true, true, true, true, true, true, true, true, true] rfl rfl (by kernel_rfl) (fun _ _ _ h => h) (Or.inl ⟨by rfl, ?_⟩) ?_ ?_
                  rotate_left
                  · intro w'
                    go_simp
                    with_reducible rfl
                  rotate_left
                  · simp only [Act.put, List.setIfInBounds_toArray, List.set_cons_zero, List.set_cons_succ, i64_w, i32_w]
                    rfl
                  refine done_ (by kernel_rfl) ?_
                  go_wp2
                  go_ret
                  exact ⟨rfl, below_step F165_.out hHeld⟩
                · skip
                  have hk1 : decide (k < wt.length) = false := decide_eq_false hkl
                  go_upto_region 32 with (fail)
                  refine start_ (n := 14) (S := fun w' => Below wr.drew.heap.size wr.drew w') (ds := []) #[false, false, false, false, false, false, false, false, false, false, false, false, false, false] (by kernel_rfl) rfl rfl (Below.refl _ _) (fun hHeld => ?_)
                  have F173_ := Aside0.mk (below_drew1 KB.out)
                  have F174_ := Aside0.mk (blk_drew Kb5.out)
                  have F175_ := Aside0.mk (blk_drew Kb8.out)
                  have F176_ := Aside0.mk (blk_drew Kb17.out)
                  have F177_ := Aside0.mk (DiskF.below Kt.out (below_drew1 (Below.refl _ _)))
                  have F178_ := Aside0.mk (blk_drew Kb9.out)
                  have F179_ := Aside0.mk (blk_drew Kb10.out)
                  have F180_ := Aside0.mk (Kd.N_drew KN.out)
                  clear KB Kb5 Kb8 Kb17 Kt Kb9 Kb10 KN
                  generalize wr.drew = w11 at *
                  have hold_b17 := F176_.out
                  have hold_b9 := F178_.out
                  have hold_b10 := F179_.out
                  have hold_t := F177_.out
                  refine pure_ (i := 0) (N := some 132) (v := ?_) (a' := ?_) #[true, false, false, false, false, false, false, false, false, false, false, false, false, false] rfl rfl (by kernel_rfl) (fun _ _ _ h => h) (Or.inl ⟨by rfl, ?_⟩) ?_ ?_
                  rotate_left
                  · intro w'
                    go_simp
                    with_reducible rfl
                  rotate_left
                  · simp only [Act.put, List.setIfInBounds_toArray, List.set_cons_zero, List.set_cons_succ, i64_w, i32_w]
                    rfl
                  refine pure_ (i := 1) (N := some 133) (v := ?_) (a' := ?_) #[true, true, false, false, false, false, false, false, false, false, false, false, false, false] rfl rfl (by kernel_rfl) (fun _ _ _ h => h) (Or.inl ⟨by rfl, ?_⟩) ?_ ?_
                  rotate_left
                  · intro w'
                    go_simp
                    with_reducible rfl
                  rotate_left
                  · simp only [Act.put, List.setIfInBounds_toArray, List.set_cons_zero, List.set_cons_succ, i64_w, i32_w]
                    rfl
                  refine pure_ (i := 2) (N := some 134) (v := ?_) (a' := ?_) #[true, true, true, false, false, false, false, false, false, false, false, false, false, false] rfl rfl (by kernel_rfl) (fun _ _ _ h => h) (Or.inl ⟨by rfl, ?_⟩) ?_ ?_
                  rotate_left
                  · intro w'
                    go_simp
                    with_reducible rfl
                  rotate_left
                  · simp only [Act.put, List.setIfInBounds_toArray, List.set_cons_zero, List.set_cons_succ, i64_w, i32_w]
                    rfl
                  refine pure_ (i := 3) (N := some 135) (v := ?_) (a' := ?_) #[true, true, true, true, false, false, false, false, false, false, false, false, false, false] rfl rfl (by kernel_rfl) (fun _ _ _ h => h) (Or.inl ⟨by rfl, ?_⟩) ?_ ?_
                  rotate_left
                  · intro w'
                    go_simp
                    with_reducible rfl
                  rotate_left
                  · simp only [Act.put, List.setIfInBounds_toArray, List.set_cons_zero, List.set_cons_succ, i64_w, i32_w]
                    rfl
                  refine take_ (i := 4) (N := some 136) (v := ?_) (a' := ?_) #[true, true, true, true, true, false, false, false, false, false, false, false, false, false] rfl rfl (by kernel_rfl) (fun _ _ _ h => h) (Or.inl ⟨by rfl, ?_⟩) hHeld ?_ ?_
                  rotate_left
                  · rintro w' s0
                    have hz := blk_below hold_b17 s0
                    have q3 := (blk_cell hz 3).trans (show some (Value.bool TT.st) = some (Value.bool true) from by rw [HTS.out])
                    go_simp
                    with_reducible rfl
                  rotate_left
                  · simp only [Act.put, List.setIfInBounds_toArray, List.set_cons_zero, List.set_cons_succ, i64_w, i32_w]
                    rfl
                  refine pure_ (i := 5) (N := some 137) (v := ?_) (a' := ?_) #[true, true, true, true, true, true, false, false, false, false, false, false, false, false] rfl rfl (by kernel_rfl) (fun _ _ _ h => h) (Or.inl ⟨by rfl, ?_⟩) ?_ ?_
                  rotate_left
                  · intro w'
                    go_simp
                    with_reducible rfl
                  rotate_left
                  · simp only [Act.put, List.setIfInBounds_toArray, List.set_cons_zero, List.set_cons_succ, i64_w, i32_w]
                    rfl
                  refine pure_ (i := 6) (N := some 138) (v := ?_) (a' := ?_) #[true, true, true, true, true, true, true, false, false, false, false, false, false, false] rfl rfl (by kernel_rfl) (fun _ _ _ h => h) (Or.inl ⟨by rfl, ?_⟩) ?_ ?_
                  rotate_left
                  · intro w'
                    go_simp
                    with_reducible rfl
                  rotate_left
                  · simp only [Act.put, List.setIfInBounds_toArray, List.set_cons_zero, List.set_cons_succ, i64_w, i32_w]
                    rfl
                  refine take_ (i := 7) (N := some 139) (v := ?_) (a' := ?_) #[true, true, true, true, true, true, true, true, false, false, false, false, false, false] rfl rfl (by kernel_rfl) (fun _ _ _ h => h) (Or.inl ⟨by rfl, ?_⟩) hHeld ?_ ?_
                  rotate_left
                  · rintro w' s0
                    have hz := blk_below hold_b17 s0
                    have yy0 := (blk_cell hz 0).trans rfl
                    have yy1 := (blk_cell hz 1).trans rfl
                    have yy2 := (blk_cell hz 2).trans rfl
                    have yy3 := (blk_cell hz 3).trans rfl
                    go_simp
                    with_reducible rfl
                  rotate_left
                  · simp only [Act.put, List.setIfInBounds_toArray, List.set_cons_zero, List.set_cons_succ, i64_w, i32_w]
                    rfl
                  refine take_ (i := 9) (N := some 141) (v := ?_) (a' := ?_) #[true, true, true, true, true, true, true, true, false, true, false, false, false, false] rfl rfl (by kernel_rfl) (fun _ _ _ h => h) (Or.inl ⟨by rfl, ?_⟩) hHeld ?_ ?_
                  rotate_left
                  · rintro w' s0
                    have hz := blk_below hold_b9 s0
                    have yy0 := arr_cell hz 0 (by rw [applyA_len]; have := HI.out; omega)
                    have yy1 := arr_cell hz 1 (by rw [applyA_len]; have := HI.out; omega)
                    have yy2 := arr_cell hz 2 (by rw [applyA_len]; have := HI.out; omega)
                    have yy3 := arr_cell hz 3 (by rw [applyA_len]; have := HI.out; omega)
                    go_simp
                    with_reducible rfl
                  rotate_left
                  · simp only [Act.put, List.setIfInBounds_toArray, List.set_cons_zero, List.set_cons_succ, i64_w, i32_w]
                    rfl
                  refine take_ (i := 10) (N := some 142) (v := ?_) (a' := ?_) #[true, true, true, true, true, true, true, true, false, true, true, false, false, false] rfl rfl (by kernel_rfl) (fun _ _ _ h => h) (Or.inl ⟨by rfl, ?_⟩) hHeld ?_ ?_
                  rotate_left
                  · rintro w' s0
                    have hz := blk_below hold_b10 s0
                    have yy0 := arr_cell hz 0 (by rw [applyA_len]; have := HI.out; omega)
                    have yy1 := arr_cell hz 1 (by rw [applyA_len]; have := HI.out; omega)
                    have yy2 := arr_cell hz 2 (by rw [applyA_len]; have := HI.out; omega)
                    have yy3 := arr_cell hz 3 (by rw [applyA_len]; have := HI.out; omega)
                    go_simp
                    with_reducible rfl
                  rotate_left
                  · simp only [Act.put, List.setIfInBounds_toArray, List.set_cons_zero, List.set_cons_succ, i64_w, i32_w]
                    rfl
                  refine one_ (i := 8) (N := some 140) #[true, true, true, true, true, true, true, true, true, true, true, false, false, false] rfl rfl (by kernel_rfl) (by decide) (fun K hK => ?_)
                  refine goes_ Try.func24 (by kernel_rfl) rfl #[(.agg #[.slice P7 TT.s.length p7, .slice Q7 TT.p.length q7, .int .i64 TT.left, .bool TT.st])] (by rfl) rfl rfl (by (try simp only [List.map_toArray, List.map_cons, List.map_nil]); first | done | rfl) ?_
                  refine (restart_says _ TT _ (DiskF.V (DiskF.below hold_t hHeld))).mono ?_
                  rintro e w_r ⟨⟨v_r, rfl, hdr⟩, hb⟩
                  refine ⟨_, rfl, ?_⟩
                  refine hK.out _ _ (below_step hHeld hb) (fun hHeld => ?_)
                  clear hK K
                  refine norm_ (a' := ?_) ?_ ?_
                  rotate_left
                  · show Act.put _ (some 140) _ = _
                    simp only [Act.put, List.setIfInBounds_toArray, List.set_cons_zero, List.set_cons_succ, i64_w, i32_w]
                    rfl
                  refine one_ (i := 11) (N := some 143) #[true, true, true, true, true, true, true, true, true, true, true, true, false, false] rfl rfl (by kernel_rfl) (by decide) (fun K hK => ?_)
                  refine goes_ Try.func43 (by kernel_rfl) rfl #[v_r, (.agg #[.int .u8 ((applyA (wt.take k) base).getD 0 0), .int .u8 ((applyA (wt.take k) base).getD 1 0), .int .u8 ((applyA (wt.take k) base).getD 2 0), .int .u8 ((applyA (wt.take k) base).getD 3 0)]), (.agg #[.int .u8 ((applyA (wt.take (min k rm)) base).getD 0 0), .int .u8 ((applyA (wt.take (min k rm)) base).getD 1 0), .int .u8 ((applyA (wt.take (min k rm)) base).getD 2 0), .int .u8 ((applyA (wt.take (min k rm)) base).getD 3 0)])] (by rfl) rfl rfl (by (try simp only [List.map_toArray, List.map_cons, List.map_nil]); first | done | rfl) ?_
                  refine (hold_says v_r (restartD TT) (applyA (wt.take k) base) (applyA (wt.take (min k rm)) base) _ (by rw [applyA_len]; have := HI.out; omega) (by rw [applyA_len]; have := HI.out; omega) HHO.out hdr).mono ?_
                  rintro e w_h ⟨rfl, hb⟩
                  refine ⟨_, rfl, ?_⟩
                  refine hK.out _ _ (below_step hHeld hb) (fun hHeld => ?_)
                  clear hK K
                  refine norm_ (a' := ?_) ?_ ?_
                  rotate_left
                  · show Act.put _ (some 143) _ = _
                    simp only [Act.put, List.setIfInBounds_toArray, List.set_cons_zero, List.set_cons_succ, i64_w, i32_w]
                    rfl
                  refine pure_ (i := 12) (N := some 144) (v := ?_) (a' := ?_) #[true, true, true, true, true, true, true, true, true, true, true, true, true, false] rfl rfl (by kernel_rfl) (fun _ _ _ h => h) (Or.inl ⟨by rfl, ?_⟩) ?_ ?_
                  rotate_left
                  · intro w'
                    go_simp
                    with_reducible rfl
                  rotate_left
                  · simp only [Act.put, List.setIfInBounds_toArray, List.set_cons_zero, List.set_cons_succ, i64_w, i32_w]
                    rfl
                  refine pure_ (i := 13) (N := some 4) (v := ?_) (a' := ?_) #[true, true, true, true, true, true, true, true, true, true, true, true, true, true] rfl rfl (by kernel_rfl) (fun _ _ _ h => h) (Or.inl ⟨by rfl, ?_⟩) ?_ ?_
                  rotate_left
                  · intro w'
                    go_simp
                    with_reducible rfl
                  rotate_left
                  · simp only [Act.put, List.setIfInBounds_toArray, List.set_cons_zero, List.set_cons_succ, i64_w, i32_w]
                    rfl
                  refine done_ (by kernel_rfl) ?_
                  go_wp2
                  go_ret
                  exact ⟨rfl, below_step F173_.out hHeld⟩
            · skip
              obtain ⟨TT, hTT⟩ : ∃ TT, hisD (applyA wt base) [] ((rm - wt.length : Nat) : Int) = TT := ⟨_, rfl⟩
              have HY := Aside0.mk (show syncD X = (TT, 0) from by rw [← hX.out, ← hTT, show ((rm - wt.length : Nat) : Int) = (rm : Int) - (wt.length : Int) by omega]; exact his_sync HI.out.2.2.2.2 (by have := HI.out; have := HL40.out; omega) (by omega) (by have := HI.out; omega) (by omega))
              replace hTT := Aside0.mk hTT
              have hst1 : decide (rm < wt.length) = false := decide_eq_false hst
              go_upto_region 24 with (go_at_call 30; (refine ((syncF_says (okH b5 b8 b9 b10 (.slice A11 wt.length c11)) _ X _ F107_.out).mono (fun e w' h => DEF.of h HY.out)).mono ?_); rintro e w9 ⟨⟨P7, p7, Q7, q7, rfl, hd⟩, hb⟩; have F181_ := Aside0.mk (below_step F105_.out hb); have F182_ := Aside0.mk (blk_below F106_.out hb); have F183_ := Aside0.mk (DiskF.below F107_.out hb); have F184_ := Aside0.mk (blk_below F108_.out hb); have F185_ := Aside0.mk (blk_below F109_.out hb); have F186_ := Aside0.mk (blk_below F110_.out hb); have F187_ := Aside0.mk (Kd.N_below F111_.out hb); clear F105_ F106_ F107_ F108_ F109_ F110_ F111_; clear F183_; have F188_ := Aside0.mk (DiskF.mono (ok' := (okH b5 b8 b9 b10 (.slice A11 wt.length c11))) hd (fun k hk => Or.elim hk id (fun h => HFR.out k h))); clear hd hb)
              clear y0 y1 y2 y3
              clear HFR
              have H17_ := Aside0.mk (show w9.heap.size ≠ b5 ∧ w9.heap.size ≠ b8 ∧ w9.heap.size ≠ b9 ∧ w9.heap.size ≠ b10 from ⟨Nat.ne_of_gt (blk_lt F182_.out), Nat.ne_of_gt (blk_lt F184_.out), Nat.ne_of_gt (blk_lt F185_.out), Nat.ne_of_gt (blk_lt F186_.out)⟩)
              have F189_ := Aside0.mk (below_alloc F181_.out (.cells #[.slice P7 TT.s.length p7, .slice Q7 TT.p.length q7, .int .i64 TT.left, .bool TT.st] 25))
              have F190_ := Aside0.mk (blk_alloc F182_.out (.cells #[.slice P7 TT.s.length p7, .slice Q7 TT.p.length q7, .int .i64 TT.left, .bool TT.st] 25))
              have F191_ := Aside0.mk (blk_alloc F184_.out (.cells #[.slice P7 TT.s.length p7, .slice Q7 TT.p.length q7, .int .i64 TT.left, .bool TT.st] 25))
              have F192_ := Aside0.mk (blk_alloc F185_.out (.cells #[.slice P7 TT.s.length p7, .slice Q7 TT.p.length q7, .int .i64 TT.left, .bool TT.st] 25))
              have F193_ := Aside0.mk (blk_alloc F186_.out (.cells #[.slice P7 TT.s.length p7, .slice Q7 TT.p.length q7, .int .i64 TT.left, .bool TT.st] 25))
              have F194_ := Aside0.mk (Kd.N_alloc F187_.out (.cells #[.slice P7 TT.s.length p7, .slice Q7 TT.p.length q7, .int .i64 TT.left, .bool TT.st] 25))
              have F195_ := Aside0.mk (DiskF.below F188_.out (below_alloc (Below.refl _ _) (.cells #[.slice P7 TT.s.length p7, .slice Q7 TT.p.length q7, .int .i64 TT.left, .bool TT.st] 25)))
              clear F181_ F182_ F184_ F185_ F186_ F187_ F188_
              have F196_ := Aside0.mk (blk_new w9 (.cells #[.slice P7 TT.s.length p7, .slice Q7 TT.p.length q7, .int .i64 TT.left, .bool TT.st] 25))
              generalize w9.alloc (.cells #[.slice P7 TT.s.length p7, .slice Q7 TT.p.length q7, .int .i64 TT.left, .bool TT.st] 25) = w10 at *
              generalize w9.heap.size = b17 at *
              have HB17 := Aside0.mk (show b17 ≠ b5 ∧ b17 ≠ b8 ∧ b17 ≠ b9 ∧ b17 ≠ b10 from H17_.out)
              go_wp2_with (fail)
              go_loopg [20] wt.length (fun kq v20 w' => ∃ k : Nat, v20 = .int .i64 k ∧ Aside0 (k ≤ wt.length ∧ kq + k = wt.length) ∧ Aside0 (Below w.heap.size w w') ∧ Aside0 (w'.heap[b5]? = some (.cells #[.slice P5 X.s.length p5, .slice Q5 X.p.length q5, .int .i64 X.left, .bool X.st] 25 (0, 0))) ∧ Aside0 (w'.heap[b8]? = some (.cells (nums .u8 (applyA wt base)).toArray 55 (0, 0))) ∧ Aside0 (w'.heap[b17]? = some (.cells #[.slice P7 TT.s.length p7, .slice Q7 TT.p.length q7, .int .i64 TT.left, .bool TT.st] 25 (0, 0))) ∧ Aside0 (DiskF w' (okH b5 b8 b9 b10 (.slice A11 wt.length c11)) (.agg #[.slice P7 TT.s.length p7, .slice Q7 TT.p.length q7, .int .i64 TT.left, .bool TT.st]) TT) ∧ Aside0 (w'.heap[b9]? = some (.cells (nums .u8 (applyA (wt.take k) base)).toArray 55 (0, 0))) ∧ Aside0 (w'.heap[b10]? = some (.cells (nums .u8 (applyA (wt.take (min k rm)) base)).toArray 55 (0, 0))) ∧ Aside0 (Kd.N k57 57 w' w.heap.size (ok4 b5 b8 b9 b10) (.slice A11 wt.length c11) wt))
              case atStart => exact ⟨0, rfl, ⟨by omega⟩, ⟨F189_.out⟩, ⟨F190_.out⟩, ⟨F191_.out⟩, ⟨F196_.out⟩, ⟨F195_.out⟩, ⟨by rw [List.take_zero]; exact F192_.out⟩, ⟨by rw [Nat.zero_min, List.take_zero]; exact F193_.out⟩, ⟨F194_.out⟩⟩
              clear F189_ F190_ F191_ F196_ F195_ F192_ F193_ F194_
              obtain ⟨k, rfl, HK, KB, Kb5, Kb8, Kb17, Kt, Kb9, Kb10, KN⟩ := hrel
              by_cases hk : k < wt.length
              · skip
                have hkl : k < wt.length := by omega
                have hkr : k ≤ rm := by omega
                have hk1 : decide (k < wt.length) = true := decide_eq_true hkl
                have hk2 : decide (k ≤ rm) = true := decide_eq_true hkr
                obtain ⟨ad2, hA2, hc1, hc2⟩ := wait_get KN.out k hkl
                subst hA2
                have hby := HWB.out _ (List.getElem_mem hkl)
                rw [show wt[k] = wt.getD k z57 from by simp [List.getD_eq_getElem?_getD, List.getElem?_eq_getElem hkl]] at hby
                have HTK := fun b => applyA_take wt k hkl b
                obtain ⟨y, hye⟩ : ∃ y, wt.getD k z57 = y := ⟨_, rfl⟩
                rw [hye] at hc1 hc2 hby HTK
                have hYE := Aside0.mk hye
                clear hye
                replace HTK := Aside0.mk HTK
                have HBY2 := Aside0.mk hby
                clear hby
                obtain ⟨m, hm, hm4, hmt, hmn⟩ := rem4 HBY2.out.1 HBY2.out.2.1
                have HMT := Aside0.mk hmt
                have HMN := Aside0.mk hmn
                clear hm hmt hmn
                go_upto_region 28 with (fail)
                have hc1_ := Aside0.mk hc1
                have hc2_ := Aside0.mk hc2
                clear hc1 hc2
                refine start_ (n := 13) (S := fun w' => Below wr.drew.heap.size wr.drew w') (ds := [12]) #[false, false, false, false, false, false, false, false, false, false, false, false, false] (by kernel_rfl) rfl rfl (Below.refl _ _) (fun hHeld => ?_)
                have F197_ := Aside0.mk (below_drew1 KB.out)
                have F198_ := Aside0.mk (blk_drew Kb5.out)
                have F199_ := Aside0.mk (blk_drew Kb8.out)
                have F200_ := Aside0.mk (blk_drew Kb17.out)
                have F201_ := Aside0.mk (DiskF.below Kt.out (below_drew1 (Below.refl _ _)))
                have F202_ := Aside0.mk (blk_drew Kb9.out)
                have F203_ := Aside0.mk (blk_drew Kb10.out)
                have F204_ := Aside0.mk (Kd.N_drew KN.out)
                have F205_ := Aside0.mk ((Below.cell (below_drew1 (Below.refl _ _)) (World.block_lt_of_cell? _ _ hc1_.out)).trans hc1_.out)
                have F206_ := Aside0.mk ((Below.cell (below_drew1 (Below.refl _ _)) (World.block_lt_of_cell? _ _ hc2_.out)).trans hc2_.out)
                clear KB Kb5 Kb8 Kb17 Kt Kb9 Kb10 KN hc1_ hc2_
                generalize wr.drew = w11 at *
                have hold_c1 := F205_.out
                have hold_c2 := F206_.out
                have hmt := HMT.out
                have hwu : IntKind.u8.wrap (m : Int) = (m : Int) := wraps_u8 m (by omega)
                have hbx0 := HBY2.out.1
                have hbx1 := HBY2.out.2.1
                have hm4i : (m : Int) < 4 := by omega
                refine pure_ (i := 0) (N := some 104) (v := ?_) (a' := ?_) #[true, false, false, false, false, false, false, false, false, false, false, false, false] rfl rfl (by kernel_rfl) (fun _ _ _ h => h) (Or.inl ⟨by rfl, ?_⟩) ?_ ?_
                rotate_left
                · intro w'
                  go_simp
                  with_reducible rfl
                rotate_left
                · simp only [Act.put, List.setIfInBounds_toArray, List.set_cons_zero, List.set_cons_succ, i64_w, i32_w]
                  rfl
                refine pure_ (i := 1) (N := some 105) (v := ?_) (a' := ?_) #[true, true, false, false, false, false, false, false, false, false, false, false, false] rfl rfl (by kernel_rfl) (fun _ _ _ h => h) (Or.inl ⟨by rfl, ?_⟩) ?_ ?_
                rotate_left
                · intro w'
                  go_simp
                  with_reducible rfl
                rotate_left
                · simp only [Act.put, List.setIfInBounds_toArray, List.set_cons_zero, List.set_cons_succ, i64_w, i32_w]
                  rfl
                refine pure_ (i := 2) (N := some 106) (v := ?_) (a' := ?_) #[true, true, true, false, false, false, false, false, false, false, false, false, false] rfl rfl (by kernel_rfl) (fun _ _ _ h => h) (Or.inl ⟨by rfl, ?_⟩) ?_ ?_
                rotate_left
                · intro w'
                  go_simp
                  with_reducible rfl
                rotate_left
                · simp only [Act.put, List.setIfInBounds_toArray, List.set_cons_zero, List.set_cons_succ, i64_w, i32_w]
                  rfl
                refine pure_ (i := 3) (N := some 107) (v := ?_) (a' := ?_) #[true, true, true, true, false, false, false, false, false, false, false, false, false] rfl rfl (by kernel_rfl) (fun _ _ _ h => h) (Or.inl ⟨by rfl, ?_⟩) ?_ ?_
                rotate_left
                · intro w'
                  go_simp
                  with_reducible rfl
                rotate_left
                · simp only [Act.put, List.setIfInBounds_toArray, List.set_cons_zero, List.set_cons_succ, i64_w, i32_w]
                  rfl
                refine take_ (i := 4) (N := some 108) (v := ?_) (a' := ?_) #[true, true, true, true, true, false, false, false, false, false, false, false, false] rfl rfl (by kernel_rfl) (fun _ _ _ h => h) (Or.inl ⟨by rfl, ?_⟩) hHeld ?_ ?_
                rotate_left
                · rintro w' s0
                  have q0 := (Below.cell s0 (World.block_lt_of_cell? _ _ hold_c1)).trans hold_c1
                  go_simp
                  with_reducible rfl
                rotate_left
                · simp only [Act.put, List.setIfInBounds_toArray, List.set_cons_zero, List.set_cons_succ, i64_w, i32_w]
                  rfl
                refine pure_ (i := 5) (N := some 109) (v := ?_) (a' := ?_) #[true, true, true, true, true, true, false, false, false, false, false, false, false] rfl rfl (by kernel_rfl) (fun _ _ _ h => h) (Or.inl ⟨by rfl, ?_⟩) ?_ ?_
                rotate_left
                · intro w'
                  go_simp
                  with_reducible rfl
                rotate_left
                · simp only [Act.put, List.setIfInBounds_toArray, List.set_cons_zero, List.set_cons_succ, i64_w, i32_w]
                  rfl
                refine pure_ (i := 6) (N := some 110) (v := ?_) (a' := ?_) #[true, true, true, true, true, true, true, false, false, false, false, false, false] rfl rfl (by kernel_rfl) (fun _ _ _ h => h) (Or.inl ⟨by rfl, ?_⟩) ?_ ?_
                rotate_left
                · intro w'
                  go_simp
                  with_reducible rfl
                rotate_left
                · simp only [Act.put, List.setIfInBounds_toArray, List.set_cons_zero, List.set_cons_succ, i64_w, i32_w]
                  rfl
                refine pure_ (i := 7) (N := some 111) (v := ?_) (a' := ?_) #[true, true, true, true, true, true, true, true, false, false, false, false, false] rfl rfl (by kernel_rfl) (fun _ _ _ h => h) (Or.inl ⟨by rfl, ?_⟩) ?_ ?_
                rotate_left
                · intro w'
                  go_simp
                  with_reducible rfl
                rotate_left
                · simp only [Act.put, List.setIfInBounds_toArray, List.set_cons_zero, List.set_cons_succ, i64_w, i32_w]
                  rfl
                refine pure_ (i := 8) (N := some 112) (v := ?_) (a' := ?_) #[true, true, true, true, true, true, true, true, true, false, false, false, false] rfl rfl (by kernel_rfl) (fun _ _ _ h => h) (Or.inl ⟨by rfl, ?_⟩) ?_ ?_
                rotate_left
                · intro w'
                  go_simp
                  with_reducible rfl
                rotate_left
                · simp only [Act.put, List.setIfInBounds_toArray, List.set_cons_zero, List.set_cons_succ, i64_w, i32_w]
                  rfl
                refine pure_ (i := 9) (N := some 113) (v := ?_) (a' := ?_) #[true, true, true, true, true, true, true, true, true, true, false, false, false] rfl rfl (by kernel_rfl) (fun _ _ _ h => h) (Or.inl ⟨by rfl, ?_⟩) ?_ ?_
                rotate_left
                · intro w'
                  go_simp
                  with_reducible rfl
                rotate_left
                · simp only [Act.put, List.setIfInBounds_toArray, List.set_cons_zero, List.set_cons_succ, i64_w, i32_w]
                  rfl
                refine take_ (i := 10) (N := some 114) (v := ?_) (a' := ?_) #[true, true, true, true, true, true, true, true, true, true, true, false, false] rfl rfl (by kernel_rfl) (fun _ _ _ h => h) (Or.inl ⟨by rfl, ?_⟩) hHeld ?_ ?_
                rotate_left
                · rintro w' s0
                  have q0 := (Below.cell s0 (World.block_lt_of_cell? _ _ hold_c2)).trans hold_c2
                  go_simp
                  with_reducible rfl
                rotate_left
                · simp only [Act.put, List.setIfInBounds_toArray, List.set_cons_zero, List.set_cons_succ, i64_w, i32_w]
                  rfl
                refine pure_ (i := 11) (N := some 115) (v := ?_) (a' := ?_) #[true, true, true, true, true, true, true, true, true, true, true, true, false] rfl rfl (by kernel_rfl) (fun _ _ _ h => h) (Or.inl ⟨by rfl, ?_⟩) ?_ ?_
                rotate_left
                · intro w'
                  go_simp
                  with_reducible rfl
                rotate_left
                · simp only [Act.put, List.setIfInBounds_toArray, List.set_cons_zero, List.set_cons_succ, i64_w, i32_w]
                  rfl
                have hal : m < (applyA (wt.take k) base).length := by rw [applyA_len]; have := HI.out; omega
                have z1 := arr_cell F202_.out m hal
                have zf1 := blk_frozen F202_.out m
                refine last_ (i := 12) (N := none) #[true, true, true, true, true, true, true, true, true, true, true, true, true] rfl rfl (by kernel_rfl) (by decide) (fun K hK => ?_)
                refine skip_ (w1 := ?_) (by rfl) rfl ?_ ?_
                rotate_left
                · go_simp
                  rfl
                refine hK.out _ _ ?_
                clear hK K
                clear z1 zf1 hal hmt hwu hbx0 hbx1 hm4i hold_c1 hold_c2
                have HDL := Aside0.mk (show w.heap.size ≤ b9 by have := HD.out; omega)
                refine done_ (by kernel_rfl) ?_
                have F207_ := Aside0.mk (Below.setCell (p := ⟨b9, m, none⟩) F197_.out (HDL.out) (.int .u8 y.f2))
                have F208_ := Aside0.mk (blk_far F198_.out (p := ⟨b9, m, none⟩) (by have := HD.out; have := HB17.out; simp; omega) (.int .u8 y.f2))
                have F209_ := Aside0.mk (blk_far F199_.out (p := ⟨b9, m, none⟩) (by have := HD.out; have := HB17.out; simp; omega) (.int .u8 y.f2))
                have F210_ := Aside0.mk (blk_far F200_.out (p := ⟨b9, m, none⟩) (by have := HD.out; have := HB17.out; simp; omega) (.int .u8 y.f2))
                have F211_ := Aside0.mk (DiskF.far F201_.out (p := ⟨b9, m, none⟩) (fun k hk => hk.1.2.2.1) (.int .u8 y.f2))
                have F212_ := Aside0.mk (show (w11.setCell ⟨b9, m, none⟩ (.int .u8 y.f2)).heap[b9]? = some (.cells (nums .u8 ((applyA (wt.take k) base).set m y.f2)).toArray 55 (0, 0)) from (arr_set F202_.out m y.f2))
                have F213_ := Aside0.mk (blk_far F203_.out (p := ⟨b9, m, none⟩) (by have := HD.out; have := HB17.out; simp; omega) (.int .u8 y.f2))
                have F214_ := Aside0.mk (Kd.N_far F204_.out (p := ⟨b9, m, none⟩) (fun k hk => hk.2.2.1) (.int .u8 y.f2))
                clear F197_ F198_ F199_ F200_ F201_ F202_ F203_ F204_
                generalize (w11.setCell ⟨b9, m, none⟩ (.int .u8 y.f2)) = w12 at *
                clear hHeld HDL F205_ F206_
                rw [← HMN.out, ← HTK.out base] at F212_
                have hwk := Aside0.mk (show wrap64 ((k : Int) + 1) = ((k + 1 : Nat) : Int) by have := HI.out; unfold wrap64; omega)
                have hkr2 : k < rm := by omega
                have hk3 : decide (k < rm) = true := decide_eq_true hkr2
                go_upto_region 30 with (fail)
                obtain ⟨ad3, hA3, hc1, hc2⟩ := wait_get F214_.out k hkl
                injection hA3 with hA3
                subst hA3
                rw [hYE.out] at hc1 hc2
                have hc1_ := Aside0.mk hc1
                have hc2_ := Aside0.mk hc2
                clear hc1 hc2
                rw [show min k rm = k from Nat.min_eq_left hkr] at F213_
                refine start_ (n := 13) (S := fun w' => Below w12.drew.heap.size w12.drew w') (ds := [12]) #[false, false, false, false, false, false, false, false, false, false, false, false, false] (by kernel_rfl) rfl rfl (Below.refl _ _) (fun hHeld => ?_)
                have F215_ := Aside0.mk (below_drew1 F207_.out)
                have F216_ := Aside0.mk (blk_drew F208_.out)
                have F217_ := Aside0.mk (blk_drew F209_.out)
                have F218_ := Aside0.mk (blk_drew F210_.out)
                have F219_ := Aside0.mk (DiskF.below F211_.out (below_drew1 (Below.refl _ _)))
                have F220_ := Aside0.mk (blk_drew F212_.out)
                have F221_ := Aside0.mk (blk_drew F213_.out)
                have F222_ := Aside0.mk (Kd.N_drew F214_.out)
                have F223_ := Aside0.mk ((Below.cell (below_drew1 (Below.refl _ _)) (World.block_lt_of_cell? _ _ hc1_.out)).trans hc1_.out)
                have F224_ := Aside0.mk ((Below.cell (below_drew1 (Below.refl _ _)) (World.block_lt_of_cell? _ _ hc2_.out)).trans hc2_.out)
                clear F207_ F208_ F209_ F210_ F211_ F212_ F213_ F214_ hc1_ hc2_
                generalize w12.drew = w13 at *
                have hold_c1 := F223_.out
                have hold_c2 := F224_.out
                have hmt := HMT.out
                have hwu : IntKind.u8.wrap (m : Int) = (m : Int) := wraps_u8 m (by omega)
                have hbx0 := HBY2.out.1
                have hbx1 := HBY2.out.2.1
                have hm4i : (m : Int) < 4 := by omega
                refine pure_ (i := 0) (N := some 119) (v := ?_) (a' := ?_) #[true, false, false, false, false, false, false, false, false, false, false, false, false] rfl rfl (by kernel_rfl) (fun _ _ _ h => h) (Or.inl ⟨by rfl, ?_⟩) ?_ ?_
                rotate_left
                · intro w'
                  go_simp
                  with_reducible rfl
                rotate_left
                · simp only [Act.put, List.setIfInBounds_toArray, List.set_cons_zero, List.set_cons_succ, i64_w, i32_w]
                  rfl
                refine pure_ (i := 1) (N := some 120) (v := ?_) (a' := ?_) #[true, true, false, false, false, false, false, false, false, false, false, false, false] rfl rfl (by kernel_rfl) (fun _ _ _ h => h) (Or.inl ⟨by rfl, ?_⟩) ?_ ?_
                rotate_left
                · intro w'
                  go_simp
                  with_reducible rfl
                rotate_left
                · simp only [Act.put, List.setIfInBounds_toArray, List.set_cons_zero, List.set_cons_succ, i64_w, i32_w]
                  rfl
                refine pure_ (i := 2) (N := some 121) (v := ?_) (a' := ?_) #[true, true, true, false, false, false, false, false, false, false, false, false, false] rfl rfl (by kernel_rfl) (fun _ _ _ h => h) (Or.inl ⟨by rfl, ?_⟩) ?_ ?_
                rotate_left
                · intro w'
                  go_simp
                  with_reducible rfl
                rotate_left
                · simp only [Act.put, List.setIfInBounds_toArray, List.set_cons_zero, List.set_cons_succ, i64_w, i32_w]
                  rfl
                refine pure_ (i := 3) (N := some 122) (v := ?_) (a' := ?_) #[true, true, true, true, false, false, false, false, false, false, false, false, false] rfl rfl (by kernel_rfl) (fun _ _ _ h => h) (Or.inl ⟨by rfl, ?_⟩) ?_ ?_
                rotate_left
                · intro w'
                  go_simp
                  with_reducible rfl
                rotate_left
                · simp only [Act.put, List.setIfInBounds_toArray, List.set_cons_zero, List.set_cons_succ, i64_w, i32_w]
                  rfl
                refine take_ (i := 4) (N := some 123) (v := ?_) (a' := ?_) #[true, true, true, true, true, false, false, false, false, false, false, false, false] rfl rfl (by kernel_rfl) (fun _ _ _ h => h) (Or.inl ⟨by rfl, ?_⟩) hHeld ?_ ?_
                rotate_left
                · rintro w' s0
                  have q0 := (Below.cell s0 (World.block_lt_of_cell? _ _ hold_c1)).trans hold_c1
                  go_simp
                  with_reducible rfl
                rotate_left
                · simp only [Act.put, List.setIfInBounds_toArray, List.set_cons_zero, List.set_cons_succ, i64_w, i32_w]
                  rfl
                refine pure_ (i := 5) (N := some 124) (v := ?_) (a' := ?_) #[true, true, true, true, true, true, false, false, false, false, false, false, false] rfl rfl (by kernel_rfl) (fun _ _ _ h => h) (Or.inl ⟨by rfl, ?_⟩) ?_ ?_
                rotate_left
                · intro w'
                  go_simp
                  with_reducible rfl
                rotate_left
                · simp only [Act.put, List.setIfInBounds_toArray, List.set_cons_zero, List.set_cons_succ, i64_w, i32_w]
                  rfl
                refine pure_ (i := 6) (N := some 125) (v := ?_) (a' := ?_) #[true, true, true, true, true, true, true, false, false, false, false, false, false] rfl rfl (by kernel_rfl) (fun _ _ _ h => h) (Or.inl ⟨by rfl, ?_⟩) ?_ ?_
                rotate_left
                · intro w'
                  go_simp
                  with_reducible rfl
                rotate_left
                · simp only [Act.put, List.setIfInBounds_toArray, List.set_cons_zero, List.set_cons_succ, i64_w, i32_w]
                  rfl
                refine pure_ (i := 7) (N := some 126) (v := ?_) (a' := ?_) #[true, true, true, true, true, true, true, true, false, false, false, false, false] rfl rfl (by kernel_rfl) (fun _ _ _ h => h) (Or.inl ⟨by rfl, ?_⟩) ?_ ?_
                rotate_left
                · intro w'
                  go_simp
                  with_reducible rfl
                rotate_left
                · simp only [Act.put, List.setIfInBounds_toArray, List.set_cons_zero, List.set_cons_succ, i64_w, i32_w]
                  rfl
                refine pure_ (i := 8) (N := some 127) (v := ?_) (a' := ?_) #[true, true, true, true, true, true, true, true, true, false, false, false, false] rfl rfl (by kernel_rfl) (fun _ _ _ h => h) (Or.inl ⟨by rfl, ?_⟩) ?_ ?_
                rotate_left
                · intro w'
                  go_simp
                  with_reducible rfl
                rotate_left
                · simp only [Act.put, List.setIfInBounds_toArray, List.set_cons_zero, List.set_cons_succ, i64_w, i32_w]
                  rfl
                refine pure_ (i := 9) (N := some 128) (v := ?_) (a' := ?_) #[true, true, true, true, true, true, true, true, true, true, false, false, false] rfl rfl (by kernel_rfl) (fun _ _ _ h => h) (Or.inl ⟨by rfl, ?_⟩) ?_ ?_
                rotate_left
                · intro w'
                  go_simp
                  with_reducible rfl
                rotate_left
                · simp only [Act.put, List.setIfInBounds_toArray, List.set_cons_zero, List.set_cons_succ, i64_w, i32_w]
                  rfl
                refine take_ (i := 10) (N := some 129) (v := ?_) (a' := ?_) #[true, true, true, true, true, true, true, true, true, true, true, false, false] rfl rfl (by kernel_rfl) (fun _ _ _ h => h) (Or.inl ⟨by rfl, ?_⟩) hHeld ?_ ?_
                rotate_left
                · rintro w' s0
                  have q0 := (Below.cell s0 (World.block_lt_of_cell? _ _ hold_c2)).trans hold_c2
                  go_simp
                  with_reducible rfl
                rotate_left
                · simp only [Act.put, List.setIfInBounds_toArray, List.set_cons_zero, List.set_cons_succ, i64_w, i32_w]
                  rfl
                refine pure_ (i := 11) (N := some 130) (v := ?_) (a' := ?_) #[true, true, true, true, true, true, true, true, true, true, true, true, false] rfl rfl (by kernel_rfl) (fun _ _ _ h => h) (Or.inl ⟨by rfl, ?_⟩) ?_ ?_
                rotate_left
                · intro w'
                  go_simp
                  with_reducible rfl
                rotate_left
                · simp only [Act.put, List.setIfInBounds_toArray, List.set_cons_zero, List.set_cons_succ, i64_w, i32_w]
                  rfl
                have hal : m < (applyA (wt.take k) base).length := by rw [applyA_len]; have := HI.out; omega
                have z1 := arr_cell F221_.out m hal
                have zf1 := blk_frozen F221_.out m
                refine last_ (i := 12) (N := none) #[true, true, true, true, true, true, true, true, true, true, true, true, true] rfl rfl (by kernel_rfl) (by decide) (fun K hK => ?_)
                refine skip_ (w1 := ?_) (by rfl) rfl ?_ ?_
                rotate_left
                · go_simp
                  rfl
                refine hK.out _ _ ?_
                clear hK K
                clear z1 zf1 hal hmt hwu hbx0 hbx1 hm4i hold_c1 hold_c2
                have HDL := Aside0.mk (show w.heap.size ≤ b10 by have := HD.out; omega)
                refine done_ (by kernel_rfl) ?_
                have F225_ := Aside0.mk (Below.setCell (p := ⟨b10, m, none⟩) F215_.out (HDL.out) (.int .u8 y.f2))
                have F226_ := Aside0.mk (blk_far F216_.out (p := ⟨b10, m, none⟩) (by have := HD.out; have := HB17.out; simp; omega) (.int .u8 y.f2))
                have F227_ := Aside0.mk (blk_far F217_.out (p := ⟨b10, m, none⟩) (by have := HD.out; have := HB17.out; simp; omega) (.int .u8 y.f2))
                have F228_ := Aside0.mk (blk_far F218_.out (p := ⟨b10, m, none⟩) (by have := HD.out; have := HB17.out; simp; omega) (.int .u8 y.f2))
                have F229_ := Aside0.mk (DiskF.far F219_.out (p := ⟨b10, m, none⟩) (fun k hk => hk.1.2.2.2) (.int .u8 y.f2))
                have F230_ := Aside0.mk (blk_far F220_.out (p := ⟨b10, m, none⟩) (by have := HD.out; have := HB17.out; simp; omega) (.int .u8 y.f2))
                have F231_ := Aside0.mk (show (w13.setCell ⟨b10, m, none⟩ (.int .u8 y.f2)).heap[b10]? = some (.cells (nums .u8 ((applyA (wt.take k) base).set m y.f2)).toArray 55 (0, 0)) from (arr_set F221_.out m y.f2))
                have F232_ := Aside0.mk (Kd.N_far F222_.out (p := ⟨b10, m, none⟩) (fun k hk => hk.2.2.2) (.int .u8 y.f2))
                clear F215_ F216_ F217_ F218_ F219_ F220_ F221_ F222_
                generalize (w13.setCell ⟨b10, m, none⟩ (.int .u8 y.f2)) = w14 at *
                clear hHeld HDL F223_ F224_
                rw [← HMN.out, ← HTK.out base] at F231_
                go_wp2
                go_roundg (gk - 1)
                case measure => have := HK.out; omega
                case rel => exact ⟨k + 1, by first | rw [hwk.out] | simp, ⟨by have := HK.out; omega⟩, ⟨F225_.out⟩, ⟨F226_.out⟩, ⟨F227_.out⟩, ⟨F228_.out⟩, ⟨F229_.out⟩, ⟨F230_.out⟩, ⟨by rw [Nat.min_eq_left (show k + 1 ≤ rm from hkr2)]; exact F231_.out⟩, ⟨F232_.out⟩⟩
              · skip
                have hke : k = wt.length := by have := HK.out; omega
                have hk1 : decide (k < wt.length) = false := decide_eq_false hk
                have hroom := Aside0.mk (show wrap64 ((rm : Int) - (wt.length : Int)) = ((rm - wt.length : Nat) : Int) by have := HI.out; unfold wrap64; omega)
                rw [hke, List.take_length] at Kb9
                rw [hke, Nat.min_eq_left (show wt.length ≤ rm by omega), List.take_length] at Kb10
                clear hke hk
                go_upto_region 37 with (fail)
                clear hk1 hst1
                have N1 := Aside0.mk (N_empty k57 57 wr w.heap.size (ok4 b5 b8 b9 b10) (Below.size KB.out) (ok4_fresh ⟨blk_lt Kb5.out, blk_lt Kb8.out, blk_lt Kb9.out, blk_lt Kb10.out⟩ _ (Nat.le_refl _)))
                clear KN
                have F233_ := Aside0.mk (DiskF.bound Kt.out)
                clear Kt
                have F234_ := Aside0.mk (below_alloc KB.out (.cells #[] 57))
                have F235_ := Aside0.mk (blk_alloc Kb5.out (.cells #[] 57))
                have F236_ := Aside0.mk (blk_alloc Kb8.out (.cells #[] 57))
                have F237_ := Aside0.mk (blk_alloc Kb17.out (.cells #[] 57))
                have F238_ := Aside0.mk (DiskF.below F233_.out (below_alloc (Below.refl _ _) (.cells #[] 57)))
                have F239_ := Aside0.mk (blk_alloc Kb9.out (.cells #[] 57))
                have F240_ := Aside0.mk (blk_alloc Kb10.out (.cells #[] 57))
                clear KB Kb5 Kb8 Kb17 F233_ Kb9 Kb10
                generalize wr.alloc (.cells #[] 57) = w11 at *
                generalize wr.heap.size = b11 at *
                have F241_ := Aside0.mk (DiskF.mono (ok' := okH b5 b8 b9 b10 (.slice (some ⟨b11, 0, none⟩) 0 0)) F238_.out (fun k hk => ⟨hk.1.1, by have := hk.2; simp [Value.ownBlock]; omega⟩))
                clear F238_
                have y0 := (blk_cell F237_.out 0).trans rfl
                have y1 := (blk_cell F237_.out 1).trans rfl
                have y2 := (blk_cell F237_.out 2).trans rfl
                have y3 := (blk_cell F237_.out 3).trans rfl
                have z0 := (blk_cell F235_.out 0).trans rfl
                have z1 := (blk_cell F235_.out 1).trans rfl
                have z2 := (blk_cell F235_.out 2).trans rfl
                have z3 := (blk_cell F235_.out 3).trans rfl
                have zf0 := blk_frozen F235_.out 0
                have zf1 := blk_frozen F235_.out 1
                have zf2 := blk_frozen F235_.out 2
                have zf3 := blk_frozen F235_.out 3
                go_upto_region 38 with (fail)
                clear y0 y1 y2 y3
                clear z0 z1 z2 z3
                clear zf0 zf1 zf2 zf3
                clear F237_
                have F242_ := Aside0.mk (Below.setCell (p := ⟨b5, 3, none⟩) (Below.setCell (p := ⟨b5, 2, none⟩) (Below.setCell (p := ⟨b5, 1, none⟩) (Below.setCell (p := ⟨b5, 0, none⟩) F234_.out HD.out.1 (.slice P7 TT.s.length p7)) HD.out.1 (.slice Q7 TT.p.length q7)) HD.out.1 (.int .i64 TT.left)) HD.out.1 (.bool TT.st))
                have F243_ := Aside0.mk (show ((((w11.setCell ⟨b5, 0, none⟩ (.slice P7 TT.s.length p7)).setCell ⟨b5, 1, none⟩ (.slice Q7 TT.p.length q7)).setCell ⟨b5, 2, none⟩ (.int .i64 TT.left)).setCell ⟨b5, 3, none⟩ (.bool TT.st)).heap[b5]? = some (.cells #[.slice P7 TT.s.length p7, .slice Q7 TT.p.length q7, .int .i64 TT.left, .bool TT.st] 25 (0, 0)) from (blk_set (blk_set (blk_set (blk_set F235_.out 0 (.slice P7 TT.s.length p7)) 1 (.slice Q7 TT.p.length q7)) 2 (.int .i64 TT.left)) 3 (.bool TT.st)))
                have F244_ := Aside0.mk (blk_far (blk_far (blk_far (blk_far F236_.out (p := ⟨b5, 0, none⟩) (by have := HD.out; simp; omega) (.slice P7 TT.s.length p7)) (p := ⟨b5, 1, none⟩) (by have := HD.out; simp; omega) (.slice Q7 TT.p.length q7)) (p := ⟨b5, 2, none⟩) (by have := HD.out; simp; omega) (.int .i64 TT.left)) (p := ⟨b5, 3, none⟩) (by have := HD.out; simp; omega) (.bool TT.st))
                have F245_ := Aside0.mk (DiskF.far (DiskF.far (DiskF.far (DiskF.far F241_.out (p := ⟨b5, 0, none⟩) (fun k hk => hk.1.1) (.slice P7 TT.s.length p7)) (p := ⟨b5, 1, none⟩) (fun k hk => hk.1.1) (.slice Q7 TT.p.length q7)) (p := ⟨b5, 2, none⟩) (fun k hk => hk.1.1) (.int .i64 TT.left)) (p := ⟨b5, 3, none⟩) (fun k hk => hk.1.1) (.bool TT.st))
                have F246_ := Aside0.mk (blk_far (blk_far (blk_far (blk_far F239_.out (p := ⟨b5, 0, none⟩) (by have := HD.out; simp; omega) (.slice P7 TT.s.length p7)) (p := ⟨b5, 1, none⟩) (by have := HD.out; simp; omega) (.slice Q7 TT.p.length q7)) (p := ⟨b5, 2, none⟩) (by have := HD.out; simp; omega) (.int .i64 TT.left)) (p := ⟨b5, 3, none⟩) (by have := HD.out; simp; omega) (.bool TT.st))
                have F247_ := Aside0.mk (blk_far (blk_far (blk_far (blk_far F240_.out (p := ⟨b5, 0, none⟩) (by have := HD.out; simp; omega) (.slice P7 TT.s.length p7)) (p := ⟨b5, 1, none⟩) (by have := HD.out; simp; omega) (.slice Q7 TT.p.length q7)) (p := ⟨b5, 2, none⟩) (by have := HD.out; simp; omega) (.int .i64 TT.left)) (p := ⟨b5, 3, none⟩) (by have := HD.out; simp; omega) (.bool TT.st))
                have F248_ := Aside0.mk (Kd.N_far (Kd.N_far (Kd.N_far (Kd.N_far N1.out (p := ⟨b5, 0, none⟩) (fun k hk => hk.1) (.slice P7 TT.s.length p7)) (p := ⟨b5, 1, none⟩) (fun k hk => hk.1) (.slice Q7 TT.p.length q7)) (p := ⟨b5, 2, none⟩) (fun k hk => hk.1) (.int .i64 TT.left)) (p := ⟨b5, 3, none⟩) (fun k hk => hk.1) (.bool TT.st))
                clear F234_ F235_ F236_ F241_ F239_ F240_ N1
                generalize ((((w11.setCell ⟨b5, 0, none⟩ (.slice P7 TT.s.length p7)).setCell ⟨b5, 1, none⟩ (.slice Q7 TT.p.length q7)).setCell ⟨b5, 2, none⟩ (.int .i64 TT.left)).setCell ⟨b5, 3, none⟩ (.bool TT.st)) = w12 at *
                have hTTe := hTT.out
                subst hTTe
                have y0 := (blk_cell F243_.out 0).trans rfl
                have y1 := (blk_cell F243_.out 1).trans rfl
                have y2 := (blk_cell F243_.out 2).trans rfl
                have y3 := (blk_cell F243_.out 3).trans rfl
                have z0 := arr_cell F244_.out 0 (by rw [applyA_len]; have := HI.out; omega)
                have z1 := arr_cell F244_.out 1 (by rw [applyA_len]; have := HI.out; omega)
                have z2 := arr_cell F244_.out 2 (by rw [applyA_len]; have := HI.out; omega)
                have z3 := arr_cell F244_.out 3 (by rw [applyA_len]; have := HI.out; omega)
                go_upto_region 14 with (go_at_call 43; (refine (hold_says _ (hisD (applyA wt base) [] ((rm - wt.length : Nat) : Int)) (applyA wt base) (applyA wt base) _ (by rw [applyA_len]; have := HI.out; omega) (by rw [applyA_len]; have := HI.out; omega) (his_read (b := applyA wt base) (wt := []) (by rw [applyA_len]; have := HI.out; omega) (by simp) (by omega) (by have := HI.out; omega)) (DiskF.V F245_.out)).mono ?_); rintro e w15 ⟨rfl, hb⟩; have F249_ := Aside0.mk (below_step F242_.out hb); have F250_ := Aside0.mk (blk_below F243_.out hb); have F251_ := Aside0.mk (blk_below F244_.out hb); have F252_ := Aside0.mk (blk_below F246_.out hb); have F253_ := Aside0.mk (blk_below F247_.out hb); have F254_ := Aside0.mk (Kd.N_below F248_.out hb); have F255_ := Aside0.mk (DiskF.below F245_.out hb); clear F242_ F243_ F244_ F246_ F247_ F248_ F245_; clear hb; clear y0 y1 y2 y3 z0 z1 z2 z3)
                go_wp2
                go_roundg (l.length - i - 1)
                case measure => have := HI.out; omega
                case rel => exact ⟨i + 1, rm - wt.length, applyA wt base, [], P7, p7, Q7, q7, some ⟨b11, 0, none⟩, 0, rfl, by first | rw [hroom.out] | (congr 1; omega), by rw [hw.out], ⟨by have := HI.out; rw [applyA_len]; simp; omega⟩, ⟨fun y hy => by cases hy⟩, ⟨F249_.out⟩, ⟨F250_.out⟩, ⟨F255_.out⟩, ⟨F251_.out⟩, ⟨F252_.out⟩, ⟨F253_.out⟩, ⟨F254_.out⟩⟩
      · skip
        have hi0 : decide (i < l.length) = false := decide_eq_false hi
        obtain ⟨X, hX⟩ : ∃ X, hisD base wt (rm : Int) = X := ⟨_, rfl⟩
        rw [hX] at Gb5 Gx
        replace hX := Aside0.mk hX
        have HHO := Aside0.mk (show HoldsD (restartD X) base base from by rw [← hX.out]; exact his_rest_read HI.out.2.2.2.2)
        go_upto_region 40 with (fail)
        refine start_ (n := 6) (S := fun w' => Below wr.drew.heap.size wr.drew w') (ds := []) #[false, false, false, false, false, false] (by kernel_rfl) rfl rfl (Below.refl _ _) (fun hHeld => ?_)
        have F256_ := Aside0.mk (below_drew1 GB.out)
        have F257_ := Aside0.mk (blk_drew Gb5.out)
        have F258_ := Aside0.mk (DiskF.below Gx.out (below_drew1 (Below.refl _ _)))
        have F259_ := Aside0.mk (blk_drew Gb8.out)
        have F260_ := Aside0.mk (blk_drew Gb9.out)
        have F261_ := Aside0.mk (blk_drew Gb10.out)
        have F262_ := Aside0.mk (Kd.N_drew GN.out)
        clear GB Gb5 Gx Gb8 Gb9 Gb10 GN
        generalize wr.drew = w11 at *
        have hold_b5 := F257_.out
        have hold_b9 := F260_.out
        have hold_b10 := F261_.out
        have hold_x := F258_.out
        refine take_ (i := 0) (N := some 158) (v := ?_) (a' := ?_) #[true, false, false, false, false, false] rfl rfl (by kernel_rfl) (fun _ _ _ h => h) (Or.inl ⟨by rfl, ?_⟩) hHeld ?_ ?_
        rotate_left
        · rintro w' s0
          have hz := blk_below hold_b5 s0
          have yy0 := (blk_cell hz 0).trans rfl
          have yy1 := (blk_cell hz 1).trans rfl
          have yy2 := (blk_cell hz 2).trans rfl
          have yy3 := (blk_cell hz 3).trans rfl
          go_simp
          with_reducible rfl
        rotate_left
        · simp only [Act.put, List.setIfInBounds_toArray, List.set_cons_zero, List.set_cons_succ, i64_w, i32_w]
          rfl
        refine take_ (i := 2) (N := some 160) (v := ?_) (a' := ?_) #[true, false, true, false, false, false] rfl rfl (by kernel_rfl) (fun _ _ _ h => h) (Or.inl ⟨by rfl, ?_⟩) hHeld ?_ ?_
        rotate_left
        · rintro w' s0
          have hz := blk_below hold_b9 s0
          have yy0 := arr_cell hz 0 (by have := HI.out; omega)
          have yy1 := arr_cell hz 1 (by have := HI.out; omega)
          have yy2 := arr_cell hz 2 (by have := HI.out; omega)
          have yy3 := arr_cell hz 3 (by have := HI.out; omega)
          go_simp
          with_reducible rfl
        rotate_left
        · simp only [Act.put, List.setIfInBounds_toArray, List.set_cons_zero, List.set_cons_succ, i64_w, i32_w]
          rfl
        refine take_ (i := 3) (N := some 161) (v := ?_) (a' := ?_) #[true, false, true, true, false, false] rfl rfl (by kernel_rfl) (fun _ _ _ h => h) (Or.inl ⟨by rfl, ?_⟩) hHeld ?_ ?_
        rotate_left
        · rintro w' s0
          have hz := blk_below hold_b10 s0
          have yy0 := arr_cell hz 0 (by have := HI.out; omega)
          have yy1 := arr_cell hz 1 (by have := HI.out; omega)
          have yy2 := arr_cell hz 2 (by have := HI.out; omega)
          have yy3 := arr_cell hz 3 (by have := HI.out; omega)
          go_simp
          with_reducible rfl
        rotate_left
        · simp only [Act.put, List.setIfInBounds_toArray, List.set_cons_zero, List.set_cons_succ, i64_w, i32_w]
          rfl
        refine one_ (i := 1) (N := some 159) #[true, true, true, true, false, false] rfl rfl (by kernel_rfl) (by decide) (fun K hK => ?_)
        refine goes_ Try.func24 (by kernel_rfl) rfl #[(.agg #[.slice P5 X.s.length p5, .slice Q5 X.p.length q5, .int .i64 X.left, .bool X.st])] (by rfl) rfl rfl (by (try simp only [List.map_toArray, List.map_cons, List.map_nil]); first | done | rfl) ?_
        refine (restart_says _ X _ (DiskF.V (DiskF.below hold_x hHeld))).mono ?_
        rintro e w_r ⟨⟨v_r, rfl, hdr⟩, hb⟩
        refine ⟨_, rfl, ?_⟩
        refine hK.out _ _ (below_step hHeld hb) (fun hHeld => ?_)
        clear hK K
        refine norm_ (a' := ?_) ?_ ?_
        rotate_left
        · show Act.put _ (some 159) _ = _
          simp only [Act.put, List.setIfInBounds_toArray, List.set_cons_zero, List.set_cons_succ, i64_w, i32_w]
          rfl
        refine one_ (i := 4) (N := some 162) #[true, true, true, true, true, false] rfl rfl (by kernel_rfl) (by decide) (fun K hK => ?_)
        refine goes_ Try.func43 (by kernel_rfl) rfl #[v_r, (.agg #[.int .u8 ((base).getD 0 0), .int .u8 ((base).getD 1 0), .int .u8 ((base).getD 2 0), .int .u8 ((base).getD 3 0)]), (.agg #[.int .u8 ((base).getD 0 0), .int .u8 ((base).getD 1 0), .int .u8 ((base).getD 2 0), .int .u8 ((base).getD 3 0)])] (by rfl) rfl rfl (by (try simp only [List.map_toArray, List.map_cons, List.map_nil]); first | done | rfl) ?_
        refine (hold_says v_r (restartD X) (base) (base) _ (by have := HI.out; omega) (by have := HI.out; omega) HHO.out hdr).mono ?_
        rintro e w_h ⟨rfl, hb⟩
        refine ⟨_, rfl, ?_⟩
        refine hK.out _ _ (below_step hHeld hb) (fun hHeld => ?_)
        clear hK K
        refine norm_ (a' := ?_) ?_ ?_
        rotate_left
        · show Act.put _ (some 162) _ = _
          simp only [Act.put, List.setIfInBounds_toArray, List.set_cons_zero, List.set_cons_succ, i64_w, i32_w]
          rfl
        refine pure_ (i := 5) (N := some 4) (v := ?_) (a' := ?_) #[true, true, true, true, true, true] rfl rfl (by kernel_rfl) (fun _ _ _ h => h) (Or.inl ⟨by rfl, ?_⟩) ?_ ?_
        rotate_left
        · intro w'
          go_simp
          with_reducible rfl
        rotate_left
        · simp only [Act.put, List.setIfInBounds_toArray, List.set_cons_zero, List.set_cons_succ, i64_w, i32_w]
          rfl
        refine done_ (by kernel_rfl) ?_
        go_wp2
        go_ret
        exact ⟨rfl, below_step F256_.out hHeld⟩
end Go.Proofs.Ytlnmjgkeiljniaa.Q
