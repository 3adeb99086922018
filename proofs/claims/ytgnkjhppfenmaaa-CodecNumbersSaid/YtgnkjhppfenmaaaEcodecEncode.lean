/- The contract of codec.Encode. -/
import Derived.Test.YtgnkjhppfenmaaaEcodecWrite3
namespace Go.Proofs.Ytgnkjhppfenmaaa.Q
open Go.RowKit Go.Proofs.YtgnkjhppfenmaaaW.PrintWords Go.Proofs.YtgnkjhppfenmaaaW.PrintLast Go.Proofs.YtgnkjhppfenmaaaW.PrintMore
theorem k24_hp : Kd.Heap k24 := Kd.heap_fix (fun _ h_ => Kd.heap_iso _ (Kd.heap_pair (Kd.heap_int .i64) (Kd.heap_pair (Kd.heap_int .i64) (Kd.heap_pair Kd.heap_string (Kd.heap_slice 24 h_)))))
theorem writes_all : ∀ (n : Nat) (x : S24), SizeOf.sizeOf x < n → WriteSays x
  | 0, _, h => absurd h (by omega)
  | n + 1, ⟨k, m, s, l⟩, h => by
    intro P0_ u l0 A c w0 w gv gw hb hr hC hc hw hpv hpw hlen hf
    rcases kind_of_formed hf with hk | hk | hk
    · obtain rfl : k = 1 := hk
      have h2 := unsG_range m
      rw [encV_one] at hlen ⊢
      obtain ⟨q, hq⟩ := numeral_ev (unsG m).toNat (unsG m).toNat (l0 ++ [1]) (Nat.le_refl _) (by simp at hlen ⊢; omega)
      rw [Int.toNat_of_nonneg h2.1] at hq
      refine (codec_newWriter_1.calls q (fun k_ => some k_ = u.ownBlock) u l0 1 m s A c l (w0 := w0) (w := w) (hB := hb) (ho0 := Kd.R_tight rfl hr) (hr1_3 := Kd.C_kept_came k24_hp hC hb (fun k_ (hk_ : some k_ = u.ownBlock) => Kd.R_base hr k_ hk_.symm)) (hc1_3 := hc) (r := l0 ++ 1 :: numL (unsG m).toNat) ?_).mono ?_
      · unfold codec_newWriter_1.f
        rw [if_pos (by simp at hlen; omega), unsG_some, Option.bind_some, hq]
        simp
      · rintro e w' ⟨v, rfl, h3, h4, h5⟩
        exact ⟨v, rfl, Kd.R_mono h3 (fun k_ hk_ => hk_.elim (fun hs_ => .inl (hr.1 k_ hs_.symm)) .inr), h4, Kept.mono h5 (fun k_ hs_ => hr.1 k_ hs_.symm)⟩
    · obtain rfl : k = 2 := hk
      rw [encV_two] at hlen ⊢
      exact write2 P0_ u l0 2 m s A c l w0 w hb hr (by simp [bytesOf_length] at hlen; omega)
    · obtain rfl : k = 3 := hk
      rw [encV_three] at hlen ⊢
      exact write3 P0_ u l0 m s A c l w0 w gv gw hb hr hC hc hw hpv hpw (by simp at hlen; omega) (formed_list hf) (fun x hx => writes_all n x (by have h1 := List.sizeOf_lt_of_mem hx; have h2 : SizeOf.sizeOf (S24.mk 3 m s l) = 1 + SizeOf.sizeOf (3 : Int) + SizeOf.sizeOf m + SizeOf.sizeOf s + SizeOf.sizeOf l := (by simp); omega))
/-- the world behind newWriter -/
def newWriterWorld (w : World) : World := (w.alloc (.cells #[.nilFunc, .func (Fn.func 33) #[] #[], .func (Fn.func 36) #[] #[], .func (Fn.func 37) #[] #[.pointer (some ⟨w.heap.size + 1, 0, none⟩)]] 64)).alloc (.cells #[.pointer (some ⟨w.heap.size, 0, none⟩)] 48)
theorem newWriter_is (w : World) : IsW (newWriterWorld w) (w.heap.size + 1) w.heap.size := by
  refine ⟨?_, blk_alloc (blk_new _ _) _⟩
  have hs : (w.alloc (.cells #[.nilFunc, .func (Fn.func 33) #[] #[], .func (Fn.func 36) #[] #[], .func (Fn.func 37) #[] #[.pointer (some ⟨w.heap.size + 1, 0, none⟩)]] 64)).heap.size = w.heap.size + 1 := by simp
  have h2 := blk_new (w.alloc (.cells #[.nilFunc, .func (Fn.func 33) #[] #[], .func (Fn.func 36) #[] #[], .func (Fn.func 37) #[] #[.pointer (some ⟨w.heap.size + 1, 0, none⟩)]] 64)) (.cells #[.pointer (some ⟨w.heap.size, 0, none⟩)] 48)
  rw [hs] at h2
  exact h2
theorem newWriter_blk {w : World} {g : Nat} {o : Obj} (h : w.heap[g]? = some o) : (newWriterWorld w).heap[g]? = some o := blk_alloc (blk_alloc h _) _
theorem newWriter_below {w W : World} (h : Below w.heap.size w W) : Below w.heap.size w (newWriterWorld W) := below_alloc (below_alloc h _) _
set_option maxHeartbeats 2000000 in
set_option maxRecDepth 100000 in
theorem newWriter_any (w : World) : Calls Try.prog 22 #[] w fun e w' => e = .returned (.pointer (some ⟨w.heap.size, 0, none⟩)) ∧ w' = newWriterWorld w := by
  have hmf : ∀ (fn : Fn) (first cap : Array Value) (w : World), (Instr.makeFunc fn first cap).run Try.prog w = .ok (.func fn first cap) w := fun _ _ _ _ => rfl
  go_enter Try.func22, Try.ntmps22
  go_wp2
  go_ret
  exact ⟨rfl, rfl⟩

/-- what Check answers -/
def checkV (x : S24) : Int := if (formedV x).2 = true then (if (formedV x).1 > 16 then 2 else 0) else 1
theorem check_zero {x : S24} (h : checkV x = 0) : (formedV x).2 = true := by
  unfold checkV at h
  split at h
  · assumption
  · cases h
theorem check_eq (k n : Int) (s : ByteArray) (l : List S24) : codec_Check.f k n s l = some (checkV ⟨k, n, s, l⟩) := by
  unfold codec_Check.f codec_formed.f checkV
  cases e : formedV ⟨k, n, s, l⟩ with
  | mk d ok => cases ok <;> simp [e] <;> split <;> simp_all
def codec_Encode.f (a0_0 : Int) (a0_1 : Int) (a0_2 : ByteArray) (l0_3 : List (S24)) : Option (List Int × Int) :=
  if checkV ⟨a0_0, a0_1, a0_2, l0_3⟩ = 0 then (if (encV ⟨a0_0, a0_1, a0_2, l0_3⟩).length < 140737488355328 then some (encV ⟨a0_0, a0_1, a0_2, l0_3⟩, 0) else none) else some ([], checkV ⟨a0_0, a0_1, a0_2, l0_3⟩)
set_option maxHeartbeats 8000000 in
set_option maxRecDepth 100000 in
theorem encode_at (k1 : Int) (n1 : Int) (s : ByteArray) (A : Option Addr) (c : Nat) (l : List (S24)) (r1 : List Int) (r2 : Int) (w : World) (hC : Kd.C k24 w A l.length l) (hc : l.length ≤ c) (h : codec_Encode.f k1 n1 s l = some (r1, r2)) :
    Calls Try.prog 8 #[.agg #[.int .i64 k1, .int .i64 n1, .string s, .slice A l.length c]] w fun e w' => ∃ v0_ : Value, e = .returned (.tuple #[v0_, .int .i64 r2]) ∧ Kd.R (Kd.int .u8) 5 w' w.heap.size (fun _ => True) v0_ r1 ∧ Below w.heap.size w w' := by
  have hu24 := Try.underlying24
  have hck := Aside0.mk (check_eq k1 n1 s l)
  have HC := Aside0.mk hC
  clear hC
  obtain ⟨cv, hcv⟩ : ∃ e, checkV ⟨k1, n1, s, l⟩ = e := ⟨_, rfl⟩
  rw [hcv] at hck
  have HV := Aside0.mk hcv
  unfold codec_Encode.f at h
  rw [hcv] at h
  clear hcv
  have HB := Aside0.mk (Below.refl w.heap.size w)
  go_enter Try.func8, Try.ntmps8
  go_upto_region 2 with (first | ((with_reducible refine gate_dst (N := 1) rfl ?_); refine box_event ?hg (N := 1) ?hd (cs := #[.int .i64 k1, .int .i64 n1, .string s, .slice A l.length c]) (t := 24) ?hr ?_; (case hd => rfl); (case hg => rfl); (case hr => first | (go_simp; done) | (go_simp; rfl)); intro gb hg w4 hbox hb; have HB' := Aside0.mk (below_step HB.out hb); have BK := Aside0.mk hbox; clear HB hg hbox hb; have HB := HB'; clear HB'; have hz0 : w4.cell? ⟨gb, 0, none⟩ = some (.int .i64 k1) := (blk_cell BK.out 0).trans rfl; have hz1 : w4.cell? ⟨gb, 1, none⟩ = some (.int .i64 n1) := (blk_cell BK.out 1).trans rfl; have hz2 : w4.cell? ⟨gb, 2, none⟩ = some (.string s) := (blk_cell BK.out 2).trans rfl; have hz3 : w4.cell? ⟨gb, 3, none⟩ = some (.slice A l.length c) := (blk_cell BK.out 3).trans rfl) | (go_at_call 12; (refine (codec_Check.calls k1 n1 s A c l cv _ (Kd.C_below HC.out HB.out) hc hck.out).mono ?_); rintro e w5 ⟨rfl, hb⟩; have HB' := Aside0.mk (below_step HB.out hb); have BK' := Aside0.mk (blk_below BK.out hb); clear HB BK hb hz0 hz1 hz2 hz3; have HB := HB'; have BK := BK'; clear HB' BK'))
  by_cases h0 : cv = 0
  · subst h0
    rw [if_pos rfl] at h
    split at h
    · next hlt =>
      have h2 := Option.some.inj h
      obtain ⟨rfl, rfl⟩ := Prod.mk.inj h2
      clear h h2
      have hfm : Aside0 ((formedV ⟨k1, n1, s, l⟩).2 = true) := ⟨check_zero HV.out⟩
      have hsay := writes_all _ ⟨k1, n1, s, l⟩ (Nat.lt_succ_self _)
      have hlen : Aside0 (([] : List Int).length + (encV ⟨k1, n1, s, l⟩).length < 140737488355328) := ⟨by simpa using hlt⟩
      clear hlt
      go_wp2
      replace BK := Aside0.mk (blk_drew BK.out)
      replace HB := Aside0.mk (below_drew1 HB.out)
      rcases kind_of_formed hfm.out with hk | hk | hk
      · obtain rfl : k1 = 1 := hk
        refine start_ (n := 11) (S := fun w' => w'.cell? ⟨gb, 0, none⟩ = some (.int .i64 1) ∧ w'.cell? ⟨gb, 1, none⟩ = some (.int .i64 n1) ∧ w'.cell? ⟨gb, 2, none⟩ = some (.string s) ∧ w'.cell? ⟨gb, 3, none⟩ = some (.slice A l.length c)) (ds := []) #[false, false, false, false, false, false, false, false, false, false, false] (by kernel_rfl) rfl rfl ⟨(blk_cell BK.out 0).trans rfl, (blk_cell BK.out 1).trans rfl, (blk_cell BK.out 2).trans rfl, (blk_cell BK.out 3).trans rfl⟩ (fun hHeld => ?_)
        generalize w5.drew = wx at BK HB hHeld ⊢
        refine pure_ (i := 1) (N := some 11) (v := ?_) (a' := ?_) #[false, true, false, false, false, false, false, false, false, false, false] rfl rfl (by kernel_rfl) (fun _ _ _ h => h) (Or.inl ⟨by rfl, ?_⟩) ?_ ?_
        rotate_left
        · intro w'
          go_simp
          with_reducible rfl
        rotate_left
        · simp only [Act.put, List.setIfInBounds_toArray, List.set_cons_zero, List.set_cons_succ, i64_w, i32_w]
          rfl
        refine take_ (i := 2) (N := some 12) (v := ?_) (a' := ?_) #[false, true, true, false, false, false, false, false, false, false, false] rfl rfl (by kernel_rfl) (fun _ _ _ h => h) (Or.inl ⟨by rfl, ?_⟩) hHeld ?_ ?_
        rotate_left
        · rintro w' ⟨s0, s1, s2, s3⟩
          go_simp
          with_reducible rfl
        rotate_left
        · simp only [Act.put, List.setIfInBounds_toArray, List.set_cons_zero, List.set_cons_succ, i64_w, i32_w]
          rfl
        refine take_ (i := 7) (N := some 17) (v := ?_) (a' := ?_) #[false, true, true, false, false, false, false, true, false, false, false] rfl rfl (by kernel_rfl) (fun _ _ _ h => h) (Or.inl ⟨by rfl, ?_⟩) hHeld ?_ ?_
        rotate_left
        · rintro w' ⟨s0, s1, s2, s3⟩
          go_simp
          with_reducible rfl
        rotate_left
        · simp only [Act.put, List.setIfInBounds_toArray, List.set_cons_zero, List.set_cons_succ, i64_w, i32_w]
          rfl
        refine one_ (i := 0) (N := some 10) #[true, true, true, false, false, false, false, true, false, false, false] rfl rfl (by kernel_rfl) (by decide) (fun K hK => ?_)
        refine goes_ Try.func22 (by kernel_rfl) rfl #[] (by rfl) rfl rfl (by first | rfl | simp) ?_
        refine (newWriter_any _).mono ?_
        rintro e w2 ⟨rfl, rfl⟩
        refine ⟨_, rfl, ?_⟩
        have BK2 := Aside0.mk (newWriter_blk BK.out)
        have HW := Aside0.mk (newWriter_is wx)
        have HB2 := Aside0.mk (newWriter_below HB.out)
        have hcw := (blk_cell HW.out.t 1).trans rfl
        have hcw2 : (newWriterWorld wx).cell? ⟨wx.heap.size, 1, none⟩ = some (.func (Fn.func 33) #[] #[]) := hcw
        clear hcw
        change K _ (newWriterWorld wx)
        generalize newWriterWorld wx = w2 at BK2 HW HB2 hcw2 ⊢
        refine hK.out _ _ ⟨(blk_cell BK2.out 0).trans rfl, (blk_cell BK2.out 1).trans rfl, (blk_cell BK2.out 2).trans rfl, (blk_cell BK2.out 3).trans rfl⟩ (fun hHeld => ?_)
        clear hK K
        refine norm_ (a' := ?_) ?_ ?_
        rotate_left
        · show Act.put _ (some 10) _ = _
          simp only [Act.put, List.setIfInBounds_toArray, List.set_cons_zero, List.set_cons_succ, i64_w, i32_w]
          rfl
        refine pure_ (i := 3) (N := some 13) (v := ?_) (a' := ?_) #[true, true, true, true, false, false, false, true, false, false, false] rfl rfl (by kernel_rfl) (fun _ _ _ h => h) (Or.inl ⟨by rfl, ?_⟩) ?_ ?_
        rotate_left
        · intro w'
          go_simp
          with_reducible rfl
        rotate_left
        · simp only [Act.put, List.setIfInBounds_toArray, List.set_cons_zero, List.set_cons_succ, i64_w, i32_w]
          rfl
        refine pure_ (i := 4) (N := some 14) (v := ?_) (a' := ?_) #[true, true, true, true, true, false, false, true, false, false, false] rfl rfl (by kernel_rfl) (fun _ _ _ h => h) (Or.inl ⟨by rfl, ?_⟩) ?_ ?_
        rotate_left
        · intro w'
          go_simp
          with_reducible rfl
        rotate_left
        · simp only [Act.put, List.setIfInBounds_toArray, List.set_cons_zero, List.set_cons_succ, i64_w, i32_w]
          rfl
        refine pure_ (i := 5) (N := some 15) (v := ?_) (a' := ?_) #[true, true, true, true, true, true, false, true, false, false, false] rfl rfl (by kernel_rfl) (fun _ _ _ h => h) (Or.inl ⟨by rfl, ?_⟩) ?_ ?_
        rotate_left
        · intro w'
          go_simp
          with_reducible rfl
        rotate_left
        · simp only [Act.put, List.setIfInBounds_toArray, List.set_cons_zero, List.set_cons_succ, i64_w, i32_w]
          rfl
        refine one_ (i := 6) (N := some 16) #[true, true, true, true, true, true, true, true, false, false, false] rfl rfl (by kernel_rfl) (by decide) (fun K hK => ?_)
        refine value_ (w1 := ?_) (v := ?_) (by rfl) rfl ?_ ?_
        rotate_left 2
        · go_simp
          constructor
          · rfl
          · rfl
        refine hK.out _ _ ⟨(blk_cell BK2.out 0).trans rfl, (blk_cell BK2.out 1).trans rfl, (blk_cell BK2.out 2).trans rfl, (blk_cell BK2.out 3).trans rfl⟩ (fun hHeld => ?_)
        clear hK K
        refine norm_ (a' := ?_) ?_ ?_
        rotate_left
        · show Act.put _ (some 16) _ = _
          simp only [Act.put, List.setIfInBounds_toArray, List.set_cons_zero, List.set_cons_succ, i64_w, i32_w]
          rfl
        refine one_ (i := 8) (N := some 18) #[true, true, true, true, true, true, true, true, true, false, false] rfl rfl (by kernel_rfl) (by decide) (fun K hK => ?_)
        refine goesV_ Try.func33 (by kernel_rfl) rfl #[.slice none 0 0, .agg #[.int .i64 1, .int .i64 n1, .string s, .slice A l.length c]] (by rfl) rfl rfl (by rfl) (by (try simp only [List.map_toArray, List.map_cons, List.map_nil]); first | done | rfl | simp) ?_
        refine (hsay (fun _ => False) (.slice none 0 0) [] A c w w2 (wx.heap.size + 1) wx.heap.size HB2.out (Kd.R_nil _ _ _ _ _) HC.out hc HW.out id id hlen.out hfm.out).mono ?_
        rintro e w3 ⟨v2, rfl, hr3, hb3, hk3⟩
        refine ⟨_, rfl, ?_⟩
        have BK3 := Aside0.mk (blk_kept BK2.out hk3 (fun hs_ => hs_))
        have HR3 := Aside0.mk hr3
        have HB3 := Aside0.mk hb3
        clear hr3 hb3 hk3
        refine hK.out _ _ ⟨(blk_cell BK3.out 0).trans rfl, (blk_cell BK3.out 1).trans rfl, (blk_cell BK3.out 2).trans rfl, (blk_cell BK3.out 3).trans rfl⟩ (fun hHeld => ?_)
        clear hK K
        refine norm_ (a' := ?_) ?_ ?_
        rotate_left
        · show Act.put _ (some 18) _ = _
          simp only [Act.put, List.setIfInBounds_toArray, List.set_cons_zero, List.set_cons_succ, i64_w, i32_w]
          rfl
        refine pure_ (i := 9) (N := some 2) (v := ?_) (a' := ?_) #[true, true, true, true, true, true, true, true, true, true, false] rfl rfl (by kernel_rfl) (fun _ _ _ h => h) (Or.inl ⟨by rfl, ?_⟩) ?_ ?_
        rotate_left
        · intro w'
          go_simp
          with_reducible rfl
        rotate_left
        · simp only [Act.put, List.setIfInBounds_toArray, List.set_cons_zero, List.set_cons_succ, i64_w, i32_w]
          rfl
        refine pure_ (i := 10) (N := some 3) (v := ?_) (a' := ?_) #[true, true, true, true, true, true, true, true, true, true, true] rfl rfl (by kernel_rfl) (fun _ _ _ h => h) (Or.inl ⟨by rfl, ?_⟩) ?_ ?_
        rotate_left
        · intro w'
          go_simp
          with_reducible rfl
        rotate_left
        · simp only [Act.put, List.setIfInBounds_toArray, List.set_cons_zero, List.set_cons_succ, i64_w, i32_w]
          rfl
        refine done_ (by kernel_rfl) ?_
        try go_wp2
        go_ret2
        exact ⟨_, rfl, Kd.R_mono HR3.out (fun _ _ => trivial), HB3.out⟩
      · obtain rfl : k1 = 2 := hk
        refine start_ (n := 11) (S := fun w' => w'.cell? ⟨gb, 0, none⟩ = some (.int .i64 2) ∧ w'.cell? ⟨gb, 1, none⟩ = some (.int .i64 n1) ∧ w'.cell? ⟨gb, 2, none⟩ = some (.string s) ∧ w'.cell? ⟨gb, 3, none⟩ = some (.slice A l.length c)) (ds := []) #[false, false, false, false, false, false, false, false, false, false, false] (by kernel_rfl) rfl rfl ⟨(blk_cell BK.out 0).trans rfl, (blk_cell BK.out 1).trans rfl, (blk_cell BK.out 2).trans rfl, (blk_cell BK.out 3).trans rfl⟩ (fun hHeld => ?_)
        generalize w5.drew = wx at BK HB hHeld ⊢
        refine pure_ (i := 1) (N := some 11) (v := ?_) (a' := ?_) #[false, true, false, false, false, false, false, false, false, false, false] rfl rfl (by kernel_rfl) (fun _ _ _ h => h) (Or.inl ⟨by rfl, ?_⟩) ?_ ?_
        rotate_left
        · intro w'
          go_simp
          with_reducible rfl
        rotate_left
        · simp only [Act.put, List.setIfInBounds_toArray, List.set_cons_zero, List.set_cons_succ, i64_w, i32_w]
          rfl
        refine take_ (i := 2) (N := some 12) (v := ?_) (a' := ?_) #[false, true, true, false, false, false, false, false, false, false, false] rfl rfl (by kernel_rfl) (fun _ _ _ h => h) (Or.inl ⟨by rfl, ?_⟩) hHeld ?_ ?_
        rotate_left
        · rintro w' ⟨s0, s1, s2, s3⟩
          go_simp
          with_reducible rfl
        rotate_left
        · simp only [Act.put, List.setIfInBounds_toArray, List.set_cons_zero, List.set_cons_succ, i64_w, i32_w]
          rfl
        refine take_ (i := 7) (N := some 17) (v := ?_) (a' := ?_) #[false, true, true, false, false, false, false, true, false, false, false] rfl rfl (by kernel_rfl) (fun _ _ _ h => h) (Or.inl ⟨by rfl, ?_⟩) hHeld ?_ ?_
        rotate_left
        · rintro w' ⟨s0, s1, s2, s3⟩
          go_simp
          with_reducible rfl
        rotate_left
        · simp only [Act.put, List.setIfInBounds_toArray, List.set_cons_zero, List.set_cons_succ, i64_w, i32_w]
          rfl
        refine one_ (i := 0) (N := some 10) #[true, true, true, false, false, false, false, true, false, false, false] rfl rfl (by kernel_rfl) (by decide) (fun K hK => ?_)
        refine goes_ Try.func22 (by kernel_rfl) rfl #[] (by rfl) rfl rfl (by first | rfl | simp) ?_
        refine (newWriter_any _).mono ?_
        rintro e w2 ⟨rfl, rfl⟩
        refine ⟨_, rfl, ?_⟩
        have BK2 := Aside0.mk (newWriter_blk BK.out)
        have HW := Aside0.mk (newWriter_is wx)
        have HB2 := Aside0.mk (newWriter_below HB.out)
        have hcw := (blk_cell HW.out.t 2).trans rfl
        have hcw2 : (newWriterWorld wx).cell? ⟨wx.heap.size, 2, none⟩ = some (.func (Fn.func 36) #[] #[]) := hcw
        clear hcw
        change K _ (newWriterWorld wx)
        generalize newWriterWorld wx = w2 at BK2 HW HB2 hcw2 ⊢
        refine hK.out _ _ ⟨(blk_cell BK2.out 0).trans rfl, (blk_cell BK2.out 1).trans rfl, (blk_cell BK2.out 2).trans rfl, (blk_cell BK2.out 3).trans rfl⟩ (fun hHeld => ?_)
        clear hK K
        refine norm_ (a' := ?_) ?_ ?_
        rotate_left
        · show Act.put _ (some 10) _ = _
          simp only [Act.put, List.setIfInBounds_toArray, List.set_cons_zero, List.set_cons_succ, i64_w, i32_w]
          rfl
        refine pure_ (i := 3) (N := some 13) (v := ?_) (a' := ?_) #[true, true, true, true, false, false, false, true, false, false, false] rfl rfl (by kernel_rfl) (fun _ _ _ h => h) (Or.inl ⟨by rfl, ?_⟩) ?_ ?_
        rotate_left
        · intro w'
          go_simp
          with_reducible rfl
        rotate_left
        · simp only [Act.put, List.setIfInBounds_toArray, List.set_cons_zero, List.set_cons_succ, i64_w, i32_w]
          rfl
        refine pure_ (i := 4) (N := some 14) (v := ?_) (a' := ?_) #[true, true, true, true, true, false, false, true, false, false, false] rfl rfl (by kernel_rfl) (fun _ _ _ h => h) (Or.inl ⟨by rfl, ?_⟩) ?_ ?_
        rotate_left
        · intro w'
          go_simp
          with_reducible rfl
        rotate_left
        · simp only [Act.put, List.setIfInBounds_toArray, List.set_cons_zero, List.set_cons_succ, i64_w, i32_w]
          rfl
        refine pure_ (i := 5) (N := some 15) (v := ?_) (a' := ?_) #[true, true, true, true, true, true, false, true, false, false, false] rfl rfl (by kernel_rfl) (fun _ _ _ h => h) (Or.inl ⟨by rfl, ?_⟩) ?_ ?_
        rotate_left
        · intro w'
          go_simp
          with_reducible rfl
        rotate_left
        · simp only [Act.put, List.setIfInBounds_toArray, List.set_cons_zero, List.set_cons_succ, i64_w, i32_w]
          rfl
        refine one_ (i := 6) (N := some 16) #[true, true, true, true, true, true, true, true, false, false, false] rfl rfl (by kernel_rfl) (by decide) (fun K hK => ?_)
        refine value_ (w1 := ?_) (v := ?_) (by rfl) rfl ?_ ?_
        rotate_left 2
        · go_simp
          constructor
          · rfl
          · rfl
        refine hK.out _ _ ⟨(blk_cell BK2.out 0).trans rfl, (blk_cell BK2.out 1).trans rfl, (blk_cell BK2.out 2).trans rfl, (blk_cell BK2.out 3).trans rfl⟩ (fun hHeld => ?_)
        clear hK K
        refine norm_ (a' := ?_) ?_ ?_
        rotate_left
        · show Act.put _ (some 16) _ = _
          simp only [Act.put, List.setIfInBounds_toArray, List.set_cons_zero, List.set_cons_succ, i64_w, i32_w]
          rfl
        refine one_ (i := 8) (N := some 18) #[true, true, true, true, true, true, true, true, true, false, false] rfl rfl (by kernel_rfl) (by decide) (fun K hK => ?_)
        refine goesV_ Try.func36 (by kernel_rfl) rfl #[.slice none 0 0, .agg #[.int .i64 2, .int .i64 n1, .string s, .slice A l.length c]] (by rfl) rfl rfl (by rfl) (by (try simp only [List.map_toArray, List.map_cons, List.map_nil]); first | done | rfl | simp) ?_
        refine (hsay (fun _ => False) (.slice none 0 0) [] A c w w2 (wx.heap.size + 1) wx.heap.size HB2.out (Kd.R_nil _ _ _ _ _) HC.out hc HW.out id id hlen.out hfm.out).mono ?_
        rintro e w3 ⟨v2, rfl, hr3, hb3, hk3⟩
        refine ⟨_, rfl, ?_⟩
        have BK3 := Aside0.mk (blk_kept BK2.out hk3 (fun hs_ => hs_))
        have HR3 := Aside0.mk hr3
        have HB3 := Aside0.mk hb3
        clear hr3 hb3 hk3
        refine hK.out _ _ ⟨(blk_cell BK3.out 0).trans rfl, (blk_cell BK3.out 1).trans rfl, (blk_cell BK3.out 2).trans rfl, (blk_cell BK3.out 3).trans rfl⟩ (fun hHeld => ?_)
        clear hK K
        refine norm_ (a' := ?_) ?_ ?_
        rotate_left
        · show Act.put _ (some 18) _ = _
          simp only [Act.put, List.setIfInBounds_toArray, List.set_cons_zero, List.set_cons_succ, i64_w, i32_w]
          rfl
        refine pure_ (i := 9) (N := some 2) (v := ?_) (a' := ?_) #[true, true, true, true, true, true, true, true, true, true, false] rfl rfl (by kernel_rfl) (fun _ _ _ h => h) (Or.inl ⟨by rfl, ?_⟩) ?_ ?_
        rotate_left
        · intro w'
          go_simp
          with_reducible rfl
        rotate_left
        · simp only [Act.put, List.setIfInBounds_toArray, List.set_cons_zero, List.set_cons_succ, i64_w, i32_w]
          rfl
        refine pure_ (i := 10) (N := some 3) (v := ?_) (a' := ?_) #[true, true, true, true, true, true, true, true, true, true, true] rfl rfl (by kernel_rfl) (fun _ _ _ h => h) (Or.inl ⟨by rfl, ?_⟩) ?_ ?_
        rotate_left
        · intro w'
          go_simp
          with_reducible rfl
        rotate_left
        · simp only [Act.put, List.setIfInBounds_toArray, List.set_cons_zero, List.set_cons_succ, i64_w, i32_w]
          rfl
        refine done_ (by kernel_rfl) ?_
        try go_wp2
        go_ret2
        exact ⟨_, rfl, Kd.R_mono HR3.out (fun _ _ => trivial), HB3.out⟩
      · obtain rfl : k1 = 3 := hk
        refine start_ (n := 11) (S := fun w' => w'.cell? ⟨gb, 0, none⟩ = some (.int .i64 3) ∧ w'.cell? ⟨gb, 1, none⟩ = some (.int .i64 n1) ∧ w'.cell? ⟨gb, 2, none⟩ = some (.string s) ∧ w'.cell? ⟨gb, 3, none⟩ = some (.slice A l.length c)) (ds := []) #[false, false, false, false, false, false, false, false, false, false, false] (by kernel_rfl) rfl rfl ⟨(blk_cell BK.out 0).trans rfl, (blk_cell BK.out 1).trans rfl, (blk_cell BK.out 2).trans rfl, (blk_cell BK.out 3).trans rfl⟩ (fun hHeld => ?_)
        generalize w5.drew = wx at BK HB hHeld ⊢
        refine pure_ (i := 1) (N := some 11) (v := ?_) (a' := ?_) #[false, true, false, false, false, false, false, false, false, false, false] rfl rfl (by kernel_rfl) (fun _ _ _ h => h) (Or.inl ⟨by rfl, ?_⟩) ?_ ?_
        rotate_left
        · intro w'
          go_simp
          with_reducible rfl
        rotate_left
        · simp only [Act.put, List.setIfInBounds_toArray, List.set_cons_zero, List.set_cons_succ, i64_w, i32_w]
          rfl
        refine take_ (i := 2) (N := some 12) (v := ?_) (a' := ?_) #[false, true, true, false, false, false, false, false, false, false, false] rfl rfl (by kernel_rfl) (fun _ _ _ h => h) (Or.inl ⟨by rfl, ?_⟩) hHeld ?_ ?_
        rotate_left
        · rintro w' ⟨s0, s1, s2, s3⟩
          go_simp
          with_reducible rfl
        rotate_left
        · simp only [Act.put, List.setIfInBounds_toArray, List.set_cons_zero, List.set_cons_succ, i64_w, i32_w]
          rfl
        refine take_ (i := 7) (N := some 17) (v := ?_) (a' := ?_) #[false, true, true, false, false, false, false, true, false, false, false] rfl rfl (by kernel_rfl) (fun _ _ _ h => h) (Or.inl ⟨by rfl, ?_⟩) hHeld ?_ ?_
        rotate_left
        · rintro w' ⟨s0, s1, s2, s3⟩
          go_simp
          with_reducible rfl
        rotate_left
        · simp only [Act.put, List.setIfInBounds_toArray, List.set_cons_zero, List.set_cons_succ, i64_w, i32_w]
          rfl
        refine one_ (i := 0) (N := some 10) #[true, true, true, false, false, false, false, true, false, false, false] rfl rfl (by kernel_rfl) (by decide) (fun K hK => ?_)
        refine goes_ Try.func22 (by kernel_rfl) rfl #[] (by rfl) rfl rfl (by first | rfl | simp) ?_
        refine (newWriter_any _).mono ?_
        rintro e w2 ⟨rfl, rfl⟩
        refine ⟨_, rfl, ?_⟩
        have BK2 := Aside0.mk (newWriter_blk BK.out)
        have HW := Aside0.mk (newWriter_is wx)
        have HB2 := Aside0.mk (newWriter_below HB.out)
        have hcw := (blk_cell HW.out.t 3).trans rfl
        have hcw2 : (newWriterWorld wx).cell? ⟨wx.heap.size, 3, none⟩ = some (.func (Fn.func 37) #[] #[.pointer (some ⟨wx.heap.size + 1, 0, none⟩)]) := hcw
        clear hcw
        change K _ (newWriterWorld wx)
        generalize newWriterWorld wx = w2 at BK2 HW HB2 hcw2 ⊢
        refine hK.out _ _ ⟨(blk_cell BK2.out 0).trans rfl, (blk_cell BK2.out 1).trans rfl, (blk_cell BK2.out 2).trans rfl, (blk_cell BK2.out 3).trans rfl⟩ (fun hHeld => ?_)
        clear hK K
        refine norm_ (a' := ?_) ?_ ?_
        rotate_left
        · show Act.put _ (some 10) _ = _
          simp only [Act.put, List.setIfInBounds_toArray, List.set_cons_zero, List.set_cons_succ, i64_w, i32_w]
          rfl
        refine pure_ (i := 3) (N := some 13) (v := ?_) (a' := ?_) #[true, true, true, true, false, false, false, true, false, false, false] rfl rfl (by kernel_rfl) (fun _ _ _ h => h) (Or.inl ⟨by rfl, ?_⟩) ?_ ?_
        rotate_left
        · intro w'
          go_simp
          with_reducible rfl
        rotate_left
        · simp only [Act.put, List.setIfInBounds_toArray, List.set_cons_zero, List.set_cons_succ, i64_w, i32_w]
          rfl
        refine pure_ (i := 4) (N := some 14) (v := ?_) (a' := ?_) #[true, true, true, true, true, false, false, true, false, false, false] rfl rfl (by kernel_rfl) (fun _ _ _ h => h) (Or.inl ⟨by rfl, ?_⟩) ?_ ?_
        rotate_left
        · intro w'
          go_simp
          with_reducible rfl
        rotate_left
        · simp only [Act.put, List.setIfInBounds_toArray, List.set_cons_zero, List.set_cons_succ, i64_w, i32_w]
          rfl
        refine pure_ (i := 5) (N := some 15) (v := ?_) (a' := ?_) #[true, true, true, true, true, true, false, true, false, false, false] rfl rfl (by kernel_rfl) (fun _ _ _ h => h) (Or.inl ⟨by rfl, ?_⟩) ?_ ?_
        rotate_left
        · intro w'
          go_simp
          with_reducible rfl
        rotate_left
        · simp only [Act.put, List.setIfInBounds_toArray, List.set_cons_zero, List.set_cons_succ, i64_w, i32_w]
          rfl
        refine one_ (i := 6) (N := some 16) #[true, true, true, true, true, true, true, true, false, false, false] rfl rfl (by kernel_rfl) (by decide) (fun K hK => ?_)
        refine value_ (w1 := ?_) (v := ?_) (by rfl) rfl ?_ ?_
        rotate_left 2
        · go_simp
          constructor
          · rfl
          · rfl
        refine hK.out _ _ ⟨(blk_cell BK2.out 0).trans rfl, (blk_cell BK2.out 1).trans rfl, (blk_cell BK2.out 2).trans rfl, (blk_cell BK2.out 3).trans rfl⟩ (fun hHeld => ?_)
        clear hK K
        refine norm_ (a' := ?_) ?_ ?_
        rotate_left
        · show Act.put _ (some 16) _ = _
          simp only [Act.put, List.setIfInBounds_toArray, List.set_cons_zero, List.set_cons_succ, i64_w, i32_w]
          rfl
        refine one_ (i := 8) (N := some 18) #[true, true, true, true, true, true, true, true, true, false, false] rfl rfl (by kernel_rfl) (by decide) (fun K hK => ?_)
        refine goesV_ Try.func37 (by kernel_rfl) rfl #[.slice none 0 0, .agg #[.int .i64 3, .int .i64 n1, .string s, .slice A l.length c], .pointer (some ⟨wx.heap.size + 1, 0, none⟩)] (by rfl) rfl rfl (by rfl) (by (try simp only [List.map_toArray, List.map_cons, List.map_nil]); first | done | rfl | simp) ?_
        refine (hsay (fun _ => False) (.slice none 0 0) [] A c w w2 (wx.heap.size + 1) wx.heap.size HB2.out (Kd.R_nil _ _ _ _ _) HC.out hc HW.out id id hlen.out hfm.out).mono ?_
        rintro e w3 ⟨v2, rfl, hr3, hb3, hk3⟩
        refine ⟨_, rfl, ?_⟩
        have BK3 := Aside0.mk (blk_kept BK2.out hk3 (fun hs_ => hs_))
        have HR3 := Aside0.mk hr3
        have HB3 := Aside0.mk hb3
        clear hr3 hb3 hk3
        refine hK.out _ _ ⟨(blk_cell BK3.out 0).trans rfl, (blk_cell BK3.out 1).trans rfl, (blk_cell BK3.out 2).trans rfl, (blk_cell BK3.out 3).trans rfl⟩ (fun hHeld => ?_)
        clear hK K
        refine norm_ (a' := ?_) ?_ ?_
        rotate_left
        · show Act.put _ (some 18) _ = _
          simp only [Act.put, List.setIfInBounds_toArray, List.set_cons_zero, List.set_cons_succ, i64_w, i32_w]
          rfl
        refine pure_ (i := 9) (N := some 2) (v := ?_) (a' := ?_) #[true, true, true, true, true, true, true, true, true, true, false] rfl rfl (by kernel_rfl) (fun _ _ _ h => h) (Or.inl ⟨by rfl, ?_⟩) ?_ ?_
        rotate_left
        · intro w'
          go_simp
          with_reducible rfl
        rotate_left
        · simp only [Act.put, List.setIfInBounds_toArray, List.set_cons_zero, List.set_cons_succ, i64_w, i32_w]
          rfl
        refine pure_ (i := 10) (N := some 3) (v := ?_) (a' := ?_) #[true, true, true, true, true, true, true, true, true, true, true] rfl rfl (by kernel_rfl) (fun _ _ _ h => h) (Or.inl ⟨by rfl, ?_⟩) ?_ ?_
        rotate_left
        · intro w'
          go_simp
          with_reducible rfl
        rotate_left
        · simp only [Act.put, List.setIfInBounds_toArray, List.set_cons_zero, List.set_cons_succ, i64_w, i32_w]
          rfl
        refine done_ (by kernel_rfl) ?_
        try go_wp2
        go_ret2
        exact ⟨_, rfl, Kd.R_mono HR3.out (fun _ _ => trivial), HB3.out⟩
    · cases h
  · rw [if_neg h0] at h
    have h2 := Option.some.inj h
    obtain ⟨rfl, hv⟩ := Prod.mk.inj h2
    subst hv
    clear h h2
    have h0b : (cv == 0) = false := beq_eq_false_iff_ne.mpr h0
    have h0c : (cv != 0) = true := bne_iff_ne.mpr h0
    clear h0
    go_wp2
    go_ret2
    exact ⟨_, rfl, Kd.R_nil _ _ _ _ _, HB.out⟩
theorem codec_Encode.calls (a0_0 : Int) (a0_1 : Int) (a0_2 : ByteArray) (A0_3 : Option Addr) (c0_3 : Nat) (l0_3 : List (S24)) (r1 : List Int) (r2 : Int) (w : World) (hr0_3 : Kd.C k24 w A0_3 l0_3.length l0_3) (hc0_3 : l0_3.length ≤ c0_3) (h : codec_Encode.f a0_0 a0_1 a0_2 l0_3 = some (r1, r2)) :
    Calls Try.prog 8 #[.agg #[.int .i64 a0_0, .int .i64 a0_1, .string a0_2, .slice A0_3 l0_3.length c0_3]] w fun e w' => ∃ v0_ : Value, e = .returned (.tuple #[v0_, .int .i64 r2]) ∧ Kd.R (Kd.int .u8) 5 w' w.heap.size (fun _ => True) v0_ r1 ∧ Below w.heap.size w w' := encode_at a0_0 a0_1 a0_2 A0_3 c0_3 l0_3 r1 r2 w hr0_3 hc0_3 h
end Go.Proofs.Ytgnkjhppfenmaaa.Q
