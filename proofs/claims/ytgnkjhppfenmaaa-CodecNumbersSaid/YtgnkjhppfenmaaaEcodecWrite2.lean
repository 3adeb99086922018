/- The writers of codec. -/
import Derived.Test.YtgnkjhppfenmaaaSpec01
import Derived.Test.YtgnkjhppfenmaaaEWords
import Derived.Test.YtgnkjhppfenmaaaEcodecformed
import Derived.Test.YtgnkjhppfenmaaaQcodecnewWriter1
import Derived.Test.YtgnkjhppfenmaaaQcodecCheck
namespace Go.Proofs.Ytgnkjhppfenmaaa.Q
open Go.RowKit Go.Proofs.YtgnkjhppfenmaaaW.PrintWords Go.Proofs.YtgnkjhppfenmaaaW.PrintLast Go.Proofs.YtgnkjhppfenmaaaW.PrintMore
set_option maxHeartbeats 4000000 in
set_option maxRecDepth 100000 in
theorem write2 (P0_ : Nat → Prop) (u : Value) (l0 : List Int) (k1 n1 : Int) (s : ByteArray) (A : Option Addr) (c : Nat) (l : List S24) (w0 w : World) (hB : Below w0.heap.size w0 w) (ho0 : Kd.R (Kd.int .u8) 5 w w0.heap.size P0_ u l0) (hl : l0.length + (1 + (numL s.size).length + s.size) < 140737488355328) :
    Calls Try.prog 36 #[u, .agg #[.int .i64 k1, .int .i64 n1, .string s, .slice A l.length c]] w fun e w' => ∃ v0_ : Value, e = .returned (v0_) ∧ Kd.R (Kd.int .u8) 5 w' w0.heap.size (fun k_ => (P0_ k_ ∨ w.heap.size ≤ k_)) v0_ (l0 ++ 2 :: (numL s.size ++ bytesOf s)) ∧ Below w0.heap.size w0 w' ∧ Kept w w' (fun k_ => P0_ k_) := by
  have hu24 := Try.underlying24
  have hs47 : (s.size : Int) < 140737488355328 := by omega
  obtain ⟨k, hn⟩ := numeral_ev s.size s.size (l0 ++ [2]) (Nat.le_refl _) (by simp; omega)
  rw [← show IntKind.u64.wrap (s.size : Int) = (s.size : Int) by rw [u64w]; omega] at hn
  have hl3 : (l0 ++ [2] ++ numL s.size).length + s.size ≤ 140737488355328 := by simp; omega
  have HL := Aside0.mk hl
  have HO := Aside0.mk (show Kd.R (Kd.int .u8) 5 w w0.heap.size (fun k_ => (P0_ k_ ∨ w.heap.size ≤ k_)) u l0 from Kd.R_mono ho0 (fun k_ hk => (.inl hk)))
  have HK := Aside0.mk (Kept.refl w (fun k_ => P0_ k_))
  have HB := Aside0.mk hB
  clear hB hl ho0
  go_enter Try.func36, Try.ntmps36
  go_wp2_with ((with_reducible refine gate_dst (N := 3) rfl ?_); refine box_event ?hg (N := 3) ?hd (cs := #[.int .i64 k1, .int .i64 n1, .string s, .slice A l.length c]) (t := 24) ?hr ?_; (case hd => rfl); (case hg => rfl); (case hr => first | (go_simp; done) | (go_simp; rfl)); intro gb hg w5 hbox hb; have HO' := Aside0.mk (Kd.R_below HO.out hb); have HK' := Aside0.mk (Kept.below HK.out hb); have HB' := Aside0.mk (below_step HB.out hb); have BK := Aside0.mk hbox; clear HO HK HB hg hbox hb; have HO := HO'; have HK := HK'; have HB := HB'; clear HO' HK' HB')
  replace HO := Aside0.mk (Kd.R_drew HO.out)
  replace HK := Aside0.mk (Kept.drew HK.out)
  replace HB := Aside0.mk (below_drew1 HB.out)
  replace BK := Aside0.mk (blk_drew BK.out)
  refine start_ (n := 12) (S := fun w' => w'.cell? ⟨gb, 0, none⟩ = some (.int .i64 k1) ∧ w'.cell? ⟨gb, 1, none⟩ = some (.int .i64 n1) ∧ w'.cell? ⟨gb, 2, none⟩ = some (.string s) ∧ w'.cell? ⟨gb, 3, none⟩ = some (.slice A l.length c)) (ds := []) #[false, false, false, false, false, false, false, false, false, false, false, false] (by kernel_rfl) rfl rfl ⟨(blk_cell BK.out 0).trans rfl, (blk_cell BK.out 1).trans rfl, (blk_cell BK.out 2).trans rfl, (blk_cell BK.out 3).trans rfl⟩ (fun hHeld => ?_)
  generalize w5.drew = w6 at HO BK HK HB hHeld ⊢
  refine pure_ (i := 0) (N := some 5) (v := ?_) (a' := ?_) #[true, false, false, false, false, false, false, false, false, false, false, false] rfl rfl (by kernel_rfl) (fun _ _ _ h => h) (Or.inl ⟨by rfl, ?_⟩) ?_ ?_
  rotate_left
  · intro w'
    go_simp
    with_reducible rfl
  rotate_left
  · simp only [Act.put, List.setIfInBounds_toArray, List.set_cons_zero, List.set_cons_succ, i64_w, i32_w]
    rfl
  refine pure_ (i := 3) (N := some 8) (v := ?_) (a' := ?_) #[true, false, false, true, false, false, false, false, false, false, false, false] rfl rfl (by kernel_rfl) (fun _ _ _ h => h) (Or.inl ⟨by rfl, ?_⟩) ?_ ?_
  rotate_left
  · intro w'
    go_simp
    with_reducible rfl
  rotate_left
  · simp only [Act.put, List.setIfInBounds_toArray, List.set_cons_zero, List.set_cons_succ, i64_w, i32_w]
    rfl
  refine take_ (i := 4) (N := some 9) (v := ?_) (a' := ?_) #[true, false, false, true, true, false, false, false, false, false, false, false] rfl rfl (by kernel_rfl) (fun _ _ _ h => h) (Or.inl ⟨by rfl, ?_⟩) hHeld ?_ ?_
  rotate_left
  · rintro w' ⟨s0, s1, s2, s3⟩
    go_simp
    with_reducible rfl
  rotate_left
  · simp only [Act.put, List.setIfInBounds_toArray, List.set_cons_zero, List.set_cons_succ, i64_w, i32_w]
    rfl
  refine pure_ (i := 5) (N := some 10) (v := ?_) (a' := ?_) #[true, false, false, true, true, true, false, false, false, false, false, false] rfl rfl (by kernel_rfl) (fun _ _ _ h => h) (Or.inl ⟨by rfl, ?_⟩) ?_ ?_
  rotate_left
  · intro w'
    go_simp
    with_reducible rfl
  rotate_left
  · simp only [Act.put, List.setIfInBounds_toArray, List.set_cons_zero, List.set_cons_succ, i64_w, i32_w]
    rfl
  refine pure_ (i := 6) (N := some 11) (v := ?_) (a' := ?_) #[true, false, false, true, true, true, true, false, false, false, false, false] rfl rfl (by kernel_rfl) (fun _ _ _ h => h) (Or.inl ⟨by rfl, ?_⟩) ?_ ?_
  rotate_left
  · intro w'
    go_simp
    with_reducible rfl
  rotate_left
  · simp only [Act.put, List.setIfInBounds_toArray, List.set_cons_zero, List.set_cons_succ, i64_w, i32_w]
    rfl
  refine pure_ (i := 8) (N := some 13) (v := ?_) (a' := ?_) #[true, false, false, true, true, true, true, false, true, false, false, false] rfl rfl (by kernel_rfl) (fun _ _ _ h => h) (Or.inl ⟨by rfl, ?_⟩) ?_ ?_
  rotate_left
  · intro w'
    go_simp
    with_reducible rfl
  rotate_left
  · simp only [Act.put, List.setIfInBounds_toArray, List.set_cons_zero, List.set_cons_succ, i64_w, i32_w]
    rfl
  refine take_ (i := 9) (N := some 14) (v := ?_) (a' := ?_) #[true, false, false, true, true, true, true, false, true, true, false, false] rfl rfl (by kernel_rfl) (fun _ _ _ h => h) (Or.inl ⟨by rfl, ?_⟩) hHeld ?_ ?_
  rotate_left
  · rintro w' ⟨s0, s1, s2, s3⟩
    go_simp
    with_reducible rfl
  rotate_left
  · simp only [Act.put, List.setIfInBounds_toArray, List.set_cons_zero, List.set_cons_succ, i64_w, i32_w]
    rfl
  refine one_ (i := 1) (N := some 6) #[true, true, false, true, true, true, true, false, true, true, false, false] rfl rfl (by kernel_rfl) (by decide) (fun K hK => ?_)
  refine value_ (w1 := ?_) (v := ?_) (by rfl) rfl ?_ ?_
  rotate_left 2
  · go_simp
    constructor
    · rfl
    · rfl
  refine hK.out _ _ ⟨(blk_cell (blk_alloc BK.out _) 0).trans rfl, (blk_cell (blk_alloc BK.out _) 1).trans rfl, (blk_cell (blk_alloc BK.out _) 2).trans rfl, (blk_cell (blk_alloc BK.out _) 3).trans rfl⟩ (fun hHeld => ?_)
  clear hK K
  refine norm_ (a' := ?_) ?_ ?_
  rotate_left
  · show Act.put _ (some 6) _ = _
    simp only [Act.put, List.setIfInBounds_toArray, List.set_cons_zero, List.set_cons_succ, i64_w, i32_w]
    rfl
  refine one_ (i := 2) (N := some 7) #[true, true, true, true, true, true, true, false, true, true, false, false] rfl rfl (by kernel_rfl) (by decide) (fun K hK => ?_)
  refine Kd.R_append_step (Kd.int .u8) (w0 := w0) w0.heap.size (by rfl) (.tmp 5) (.tmp 6) 27 5 (.int .u8 0) 1 rfl Try.underlying27 info5 rfl (by decide) (by omega) u l0 2 [.int .u8 2] (fun k_ => (P0_ k_ ∨ w.heap.size ≤ k_)) (fun _ => False) rfl rfl rfl (fun _ hk => hk.elim) (fun k_ hk => .inr (Nat.le_trans HK.out.1 hk)) HO.out HB.out (below_size HB.out) (by have := HL.out; omega) ?_
  intro v1 w1 ho hb hg hat
  have BK1 := Aside0.mk (blk_grown BK.out hg (Kd.R_ne HO.out BK.out (by decide)))
  have HK1 := Aside0.mk (Kept.of_grown (S := (fun k_ => P0_ k_)) hg HK.out (fun k_ e_ => HO.out.1 k_ e_))
  have HO1 := Aside0.mk ho
  have HB1 := Aside0.mk hb
  clear ho hb hg hat BK HK HO HB
  refine hK.out _ _ ⟨(blk_cell BK1.out 0).trans rfl, (blk_cell BK1.out 1).trans rfl, (blk_cell BK1.out 2).trans rfl, (blk_cell BK1.out 3).trans rfl⟩ (fun hHeld => ?_)
  clear hK K
  refine norm_ (a' := ?_) ?_ ?_
  rotate_left
  · show Act.put _ (some 7) _ = _
    simp only [Act.put, List.setIfInBounds_toArray, List.set_cons_zero, List.set_cons_succ, i64_w, i32_w]
    rfl
  refine one_ (i := 7) (N := some 12) #[true, true, true, true, true, true, true, true, true, true, false, false] rfl rfl (by kernel_rfl) (by decide) (fun K hK => ?_)
  refine goes_ Try.func34 (by kernel_rfl) rfl #[v1, .int .u64 (IntKind.u64.wrap s.size)] (by rfl) rfl rfl (by (try simp only [List.map_toArray, List.map_cons, List.map_nil]); first | done | rfl) ?_
  refine (codec_numeral.calls k (fun k_ => some k_ = v1.ownBlock) v1 (l0 ++ [2]) (IntKind.u64.wrap (s.size : Int)) _ w0 _ HB1.out (Kd.R_tight rfl HO1.out) hn).mono ?_
  rintro e w2 ⟨v2, rfl, ho0, hb, hkp⟩
  refine ⟨_, rfl, ?_⟩
  have BK2 := Aside0.mk (blk_kept BK1.out hkp (fun hs_ => Kd.R_ne HO1.out BK1.out (by decide) hs_))
  have HO2 := Aside0.mk (Kd.R_mono (ok' := fun k_ => (P0_ k_ ∨ w.heap.size ≤ k_)) ho0 (fun k_ hk_ => Or.elim hk_ (fun hs_ => HO1.out.1 k_ hs_.symm) (fun hn_ => .inr (Nat.le_trans HK1.out.1 hn_))))
  have HK2 := Aside0.mk (Kept.then_ (S := (fun k_ => P0_ k_)) HK1.out hkp (fun k_ hs_ => HO1.out.1 k_ hs_.symm))
  have HB2 := Aside0.mk hb
  clear ho0 hb hkp BK1 HK1 HO1 HB1
  refine hK.out _ _ ⟨(blk_cell BK2.out 0).trans rfl, (blk_cell BK2.out 1).trans rfl, (blk_cell BK2.out 2).trans rfl, (blk_cell BK2.out 3).trans rfl⟩ (fun hHeld => ?_)
  clear hK K
  refine norm_ (a' := ?_) ?_ ?_
  rotate_left
  · show Act.put _ (some 12) _ = _
    simp only [Act.put, List.setIfInBounds_toArray, List.set_cons_zero, List.set_cons_succ, i64_w, i32_w]
    rfl
  refine one_ (i := 10) (N := some 15) #[true, true, true, true, true, true, true, true, true, true, true, false] rfl rfl (by kernel_rfl) (by decide) (fun K hK => ?_)
  refine append_str_step (w0 := w0) w0.heap.size (by rfl) (.tmp 12) (.tmp 14) 27 9 5 rfl Try.underlying27 Try.underlying9 info5 v2 _ s (fun k_ => (P0_ k_ ∨ w.heap.size ≤ k_)) rfl rfl (fun k_ hk => .inr (Nat.le_trans HK2.out.1 hk)) HO2.out HB2.out (below_size HB2.out) hl3 ?_
  intro v3 w3 ho hb hg hat
  have BK3 := Aside0.mk (blk_grown BK2.out hg (Kd.R_ne HO2.out BK2.out (by decide)))
  have HK3 := Aside0.mk (Kept.of_grown (S := (fun k_ => P0_ k_)) hg HK2.out (fun k_ e_ => HO2.out.1 k_ e_))
  have HO3 := Aside0.mk ho
  have HB3 := Aside0.mk hb
  clear ho hb hg hat BK2 HK2 HO2 HB2
  refine hK.out _ _ ⟨(blk_cell BK3.out 0).trans rfl, (blk_cell BK3.out 1).trans rfl, (blk_cell BK3.out 2).trans rfl, (blk_cell BK3.out 3).trans rfl⟩ (fun hHeld => ?_)
  clear hK K
  refine norm_ (a' := ?_) ?_ ?_
  rotate_left
  · show Act.put _ (some 15) _ = _
    simp only [Act.put, List.setIfInBounds_toArray, List.set_cons_zero, List.set_cons_succ, i64_w, i32_w]
    rfl
  refine pure_ (i := 11) (N := some 4) (v := ?_) (a' := ?_) #[true, true, true, true, true, true, true, true, true, true, true, true] rfl rfl (by kernel_rfl) (fun _ _ _ h => h) (Or.inl ⟨by rfl, ?_⟩) ?_ ?_
  rotate_left
  · intro w'
    go_simp
    with_reducible rfl
  rotate_left
  · simp only [Act.put, List.setIfInBounds_toArray, List.set_cons_zero, List.set_cons_succ, i64_w, i32_w]
    rfl
  refine done_ (by kernel_rfl) ?_
  try go_wp2
  go_ret
  exact ⟨_, rfl, by simpa using HO3.out, HB3.out, HK3.out⟩
end Go.Proofs.Ytgnkjhppfenmaaa.Q
