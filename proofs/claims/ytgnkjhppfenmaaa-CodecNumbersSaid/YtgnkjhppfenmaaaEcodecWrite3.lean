/- The writer of lists, and all writers together. -/
import Derived.Test.YtgnkjhppfenmaaaEcodecWrite2
namespace Go.Proofs.Ytgnkjhppfenmaaa.Q
open Go.RowKit Go.Proofs.YtgnkjhppfenmaaaW.PrintWords Go.Proofs.YtgnkjhppfenmaaaW.PrintLast Go.Proofs.YtgnkjhppfenmaaaW.PrintMore
/-- the writer's own memory: a variable that holds the table's address, and the table -/
structure IsW (w : World) (gv gw : Nat) : Prop where
  v : w.heap[gv]? = some (.cells #[.pointer (some ⟨gw, 0, none⟩)] 48 (0, 0))
  t : w.heap[gw]? = some (.cells #[.nilFunc, .func (Fn.func 33) #[] #[], .func (Fn.func 36) #[] #[], .func (Fn.func 37) #[] #[.pointer (some ⟨gv, 0, none⟩)]] 64 (0, 0))
def wfn (k : Int) : FuncId := if k = 1 then 33 else if k = 2 then 36 else 37
def wargs (k : Int) (u v : Value) (gv : Nat) : Array Value := if k = 1 then #[u, v] else if k = 2 then #[u, v] else #[u, v, .pointer (some ⟨gv, 0, none⟩)]
/-- what is said of the writer of x -/
def WriteSays (x : S24) : Prop := ∀ (P0_ : Nat → Prop) (u : Value) (l0 : List Int) (A : Option Addr) (c : Nat) (w0 w : World) (gv gw : Nat), Below w0.heap.size w0 w → Kd.R (Kd.int .u8) 5 w w0.heap.size P0_ u l0 → Kd.C k24 w0 A x.f3.length x.f3 → x.f3.length ≤ c → IsW w gv gw → ¬ P0_ gv → ¬ P0_ gw → l0.length + (encV x).length < 140737488355328 → (formedV x).2 = true →
    Calls Try.prog (wfn x.f0) (wargs x.f0 u (.agg #[.int .i64 x.f0, .int .i64 x.f1, .string x.f2, .slice A x.f3.length c]) gv) w fun e w' => ∃ v0_ : Value, e = .returned (v0_) ∧ Kd.R (Kd.int .u8) 5 w' w0.heap.size (fun k_ => (P0_ k_ ∨ w.heap.size ≤ k_)) v0_ (l0 ++ encV x) ∧ Below w0.heap.size w0 w' ∧ Kept w w' (fun k_ => P0_ k_)
set_option maxHeartbeats 8000000 in
set_option maxRecDepth 100000 in
theorem write3 (P0_ : Nat → Prop) (u : Value) (l0 : List Int) (n1 : Int) (s : ByteArray) (A : Option Addr) (c : Nat) (l : List S24) (w0 w : World) (gv gw : Nat) (hB : Below w0.heap.size w0 w) (ho0 : Kd.R (Kd.int .u8) 5 w w0.heap.size P0_ u l0) (hC : Kd.C k24 w0 A l.length l) (hc : l.length ≤ c) (hW : IsW w gv gw) (hpv : ¬ P0_ gv) (hpw : ¬ P0_ gw) (hl : l0.length + (1 + (numL l.length).length + (encL l).length) < 140737488355328)
    (hf : ∀ x ∈ l, (formedV x).2 = true) (ih : ∀ x ∈ l, WriteSays x) :
    Calls Try.prog 37 #[u, .agg #[.int .i64 3, .int .i64 n1, .string s, .slice A l.length c], .pointer (some ⟨gv, 0, none⟩)] w fun e w' => ∃ v0_ : Value, e = .returned (v0_) ∧ Kd.R (Kd.int .u8) 5 w' w0.heap.size (fun k_ => (P0_ k_ ∨ w.heap.size ≤ k_)) v0_ (l0 ++ 3 :: (numL l.length ++ encL l)) ∧ Below w0.heap.size w0 w' ∧ Kept w w' (fun k_ => P0_ k_) := by
  have hu24 := Try.underlying24
  have hs47 : (l.length : Int) ≤ 9223372036854775807 := by have := hC.2.1; omega
  obtain ⟨k, hn⟩ := numeral_ev l.length l.length (l0 ++ [3]) (Nat.le_refl _) (by simp; omega)
  rw [← show IntKind.u64.wrap (l.length : Int) = (l.length : Int) by rw [u64w]; omega] at hn
  have HL := Aside0.mk hl
  have HC := Aside0.mk hC
  have IH := Aside0.mk ih
  have HF := Aside0.mk hf
  have HO := Aside0.mk (show Kd.R (Kd.int .u8) 5 w w0.heap.size (fun k_ => (P0_ k_ ∨ w.heap.size ≤ k_)) u l0 from Kd.R_mono ho0 (fun k_ hk => (.inl hk)))
  have HK := Aside0.mk (Kept.refl w (fun k_ => P0_ k_))
  have HB := Aside0.mk hB
  have HW := Aside0.mk hW
  have NV := Aside0.mk hpv
  have NW := Aside0.mk hpw
  clear hB hl ho0 hC ih hf hW hpv hpw
  go_enter Try.func37, Try.ntmps37
  go_wp2_with ((with_reducible refine gate_dst (N := 4) rfl ?_); refine box_event ?hg (N := 4) ?hd (cs := #[.int .i64 3, .int .i64 n1, .string s, .slice A l.length c]) (t := 24) ?hr ?_; (case hd => rfl); (case hg => rfl); (case hr => first | (go_simp; done) | (go_simp; rfl)); intro gb hg w5 hbox hb; have GB := Aside0.mk (show w.heap.size ≤ gb by omega); have HO' := Aside0.mk (Kd.R_below HO.out hb); have HK' := Aside0.mk (Kept.below HK.out hb); have HB' := Aside0.mk (below_step HB.out hb); have BK := Aside0.mk hbox; clear HO HK HB hg hbox hb; have HO := HO'; have HK := HK'; have HB := HB'; clear HO' HK' HB')
  replace HO := Aside0.mk (Kd.R_drew HO.out)
  replace HK := Aside0.mk (Kept.drew HK.out)
  replace HB := Aside0.mk (below_drew1 HB.out)
  replace BK := Aside0.mk (blk_drew BK.out)
  refine start_ (n := 9) (S := fun w' => w'.cell? ⟨gb, 0, none⟩ = some (.int .i64 3) ∧ w'.cell? ⟨gb, 1, none⟩ = some (.int .i64 n1) ∧ w'.cell? ⟨gb, 2, none⟩ = some (.string s) ∧ w'.cell? ⟨gb, 3, none⟩ = some (.slice A l.length c)) (ds := []) #[false, false, false, false, false, false, false, false, false] (by kernel_rfl) rfl rfl ⟨(blk_cell BK.out 0).trans rfl, (blk_cell BK.out 1).trans rfl, (blk_cell BK.out 2).trans rfl, (blk_cell BK.out 3).trans rfl⟩ (fun hHeld => ?_)
  generalize w5.drew = w6 at HO BK HK HB hHeld ⊢
  refine pure_ (i := 0) (N := some 8) (v := ?_) (a' := ?_) #[true, false, false, false, false, false, false, false, false] rfl rfl (by kernel_rfl) (fun _ _ _ h => h) (Or.inl ⟨by rfl, ?_⟩) ?_ ?_
  rotate_left
  · intro w'
    go_simp
    with_reducible rfl
  rotate_left
  · simp only [Act.put, List.setIfInBounds_toArray, List.set_cons_zero, List.set_cons_succ, i64_w, i32_w]
    rfl
  refine pure_ (i := 3) (N := some 11) (v := ?_) (a' := ?_) #[true, false, false, true, false, false, false, false, false] rfl rfl (by kernel_rfl) (fun _ _ _ h => h) (Or.inl ⟨by rfl, ?_⟩) ?_ ?_
  rotate_left
  · intro w'
    go_simp
    with_reducible rfl
  rotate_left
  · simp only [Act.put, List.setIfInBounds_toArray, List.set_cons_zero, List.set_cons_succ, i64_w, i32_w]
    rfl
  refine take_ (i := 4) (N := some 12) (v := ?_) (a' := ?_) #[true, false, false, true, true, false, false, false, false] rfl rfl (by kernel_rfl) (fun _ _ _ h => h) (Or.inl ⟨by rfl, ?_⟩) hHeld ?_ ?_
  rotate_left
  · rintro w' ⟨s0, s1, s2, s3⟩
    go_simp
    with_reducible rfl
  rotate_left
  · simp only [Act.put, List.setIfInBounds_toArray, List.set_cons_zero, List.set_cons_succ, i64_w, i32_w]
    rfl
  refine pure_ (i := 5) (N := some 13) (v := ?_) (a' := ?_) #[true, false, false, true, true, true, false, false, false] rfl rfl (by kernel_rfl) (fun _ _ _ h => h) (Or.inl ⟨by rfl, ?_⟩) ?_ ?_
  rotate_left
  · intro w'
    go_simp
    with_reducible rfl
  rotate_left
  · simp only [Act.put, List.setIfInBounds_toArray, List.set_cons_zero, List.set_cons_succ, i64_w, i32_w]
    rfl
  refine pure_ (i := 6) (N := some 14) (v := ?_) (a' := ?_) #[true, false, false, true, true, true, true, false, false] rfl rfl (by kernel_rfl) (fun _ _ _ h => h) (Or.inl ⟨by rfl, ?_⟩) ?_ ?_
  rotate_left
  · intro w'
    go_simp
    with_reducible rfl
  rotate_left
  · simp only [Act.put, List.setIfInBounds_toArray, List.set_cons_zero, List.set_cons_succ, i64_w, i32_w]
    rfl
  refine one_ (i := 1) (N := some 9) #[true, true, false, true, true, true, true, false, false] rfl rfl (by kernel_rfl) (by decide) (fun K hK => ?_)
  refine value_ (w1 := ?_) (v := ?_) (by rfl) rfl ?_ ?_
  rotate_left 2
  · go_simp
    constructor
    · rfl
    · rfl
  refine hK.out _ _ ⟨(blk_cell (blk_alloc BK.out _) 0).trans rfl, (blk_cell (blk_alloc BK.out _) 1).trans rfl, (blk_cell (blk_alloc BK.out _) 2).trans rfl, (blk_cell (blk_alloc BK.out _) 3).trans rfl⟩ (fun hHeld => ?_)
  clear hK K
  refine norm_ (a' := ?_) ?_ ?_
  rotate_left
  · show Act.put _ (some 9) _ = _
    simp only [Act.put, List.setIfInBounds_toArray, List.set_cons_zero, List.set_cons_succ, i64_w, i32_w]
    rfl
  refine one_ (i := 2) (N := some 10) #[true, true, true, true, true, true, true, false, false] rfl rfl (by kernel_rfl) (by decide) (fun K hK => ?_)
  refine Kd.R_append_step (Kd.int .u8) (w0 := w0) w0.heap.size (by rfl) (.tmp 8) (.tmp 9) 27 5 (.int .u8 0) 1 rfl Try.underlying27 info5 rfl (by decide) (by omega) u l0 3 [.int .u8 3] (fun k_ => (P0_ k_ ∨ w.heap.size ≤ k_)) (fun _ => False) rfl rfl rfl (fun _ hk => hk.elim) (fun k_ hk => .inr (Nat.le_trans HK.out.1 hk)) HO.out HB.out (below_size HB.out) (by have := HL.out; omega) ?_
  intro v1 w1 ho hb hg hat
  have BK1 := Aside0.mk (blk_grown BK.out hg (Kd.R_ne HO.out BK.out (by decide)))
  have HK1 := Aside0.mk (Kept.of_grown (S := (fun k_ => P0_ k_)) hg HK.out (fun k_ e_ => HO.out.1 k_ e_))
  have HO1 := Aside0.mk ho
  have HB1 := Aside0.mk hb
  clear ho hb hg hat BK HK HO HB
  refine hK.out _ _ ⟨(blk_cell BK1.out 0).trans rfl, (blk_cell BK1.out 1).trans rfl, (blk_cell BK1.out 2).trans rfl, (blk_cell BK1.out 3).trans rfl⟩ (fun hHeld => ?_)
  clear hK K
  refine norm_ (a' := ?_) ?_ ?_
  rotate_left
  · show Act.put _ (some 10) _ = _
    simp only [Act.put, List.setIfInBounds_toArray, List.set_cons_zero, List.set_cons_succ, i64_w, i32_w]
    rfl
  refine one_ (i := 7) (N := some 15) #[true, true, true, true, true, true, true, true, false] rfl rfl (by kernel_rfl) (by decide) (fun K hK => ?_)
  refine goes_ Try.func34 (by kernel_rfl) rfl #[v1, .int .u64 (IntKind.u64.wrap l.length)] (by rfl) rfl rfl (by (try simp only [List.map_toArray, List.map_cons, List.map_nil]); first | done | rfl) ?_
  refine (codec_numeral.calls k (fun k_ => some k_ = v1.ownBlock) v1 (l0 ++ [3]) (IntKind.u64.wrap (l.length : Int)) _ w0 _ HB1.out (Kd.R_tight rfl HO1.out) hn).mono ?_
  rintro e w2 ⟨v2, rfl, ho0, hb, hkp⟩
  refine ⟨_, rfl, ?_⟩
  have BK2 := Aside0.mk (blk_kept BK1.out hkp (fun hs_ => Kd.R_ne HO1.out BK1.out (by decide) hs_))
  have HO2 := Aside0.mk (Kd.R_mono (ok' := fun k_ => (P0_ k_ ∨ w.heap.size ≤ k_)) ho0 (fun k_ hk_ => Or.elim hk_ (fun hs_ => HO1.out.1 k_ hs_.symm) (fun hn_ => .inr (Nat.le_trans HK1.out.1 hn_))))
  have HK2 := Aside0.mk (Kept.then_ (S := (fun k_ => P0_ k_)) HK1.out hkp (fun k_ hs_ => HO1.out.1 k_ hs_.symm))
  have HB2 := Aside0.mk hb
  clear ho0 hb hkp BK1 HK1 HO1 HB1
  refine hK.out _ _ ⟨(blk_cell BK2.out 0).trans rfl, (blk_cell BK2.out 1).trans rfl, (blk_cell BK2.out 2).trans rfl, (blk_cell BK2.out 3).trans rfl⟩ (fun hHeld => ?_)
  clear hK K
  refine norm_ (a' := ?_) ?_ ?_
  rotate_left
  · show Act.put _ (some 15) _ = _
    simp only [Act.put, List.setIfInBounds_toArray, List.set_cons_zero, List.set_cons_succ, i64_w, i32_w]
    rfl
  refine pure_ (i := 8) (N := some 0) (v := ?_) (a' := ?_) #[true, true, true, true, true, true, true, true, true] rfl rfl (by kernel_rfl) (fun _ _ _ h => h) (Or.inl ⟨by rfl, ?_⟩) ?_ ?_
  rotate_left
  · intro w'
    go_simp
    with_reducible rfl
  rotate_left
  · simp only [Act.put, List.setIfInBounds_toArray, List.set_cons_zero, List.set_cons_succ, i64_w, i32_w]
    rfl
  refine done_ (by kernel_rfl) ?_
  have hz3 := (blk_cell BK2.out 3).trans rfl
  have hz0 : w2.cell? ⟨gb, 3, none⟩ = some (.slice A l.length c) := hz3
  clear hz3
  have HW2 := Aside0.mk (show IsW w2 gv gw from ⟨blk_kept HW.out.v HK2.out NV.out, blk_kept HW.out.t HK2.out NW.out⟩)
  clear HW
  go_wp2
  go_loopg [0, 19] l.length (fun kq v0 v19 w' => ∃ (i : Int) (ys : List Int), v19 = .int .i64 i ∧ Aside0 (0 ≤ i ∧ (kq : Int) + i = l.length) ∧ Aside0 (ys ++ encL (l.drop i.toNat) = l0 ++ 3 :: (numL l.length ++ encL l)) ∧ Aside0 (Kd.R (Kd.int .u8) 5 w' w0.heap.size (fun k_ => (P0_ k_ ∨ w.heap.size ≤ k_)) v0 ys) ∧ Aside0 (Below w0.heap.size w0 w') ∧ Aside0 (Kept w w' (fun k_ => P0_ k_)) ∧ Aside0 (IsW w' gv gw))
  case atStart => exact ⟨0, _, rfl, ⟨by omega⟩, ⟨by simp⟩, HO2, HB2, HK2, HW2⟩
  case round =>
    clear hz0 BK2 HO2 HB2 HK2 HW2
    obtain ⟨i, ys, rfl, HI, HE, HO, HB, HK, HW⟩ := hrel
    by_cases hi : i < l.length
    · have hi0 : decide (i < (l.length : Int)) = true := decide_eq_true hi
      have hm := Aside0.mk (rd_mem l i HI.out.1 hi)
      have hd := Aside0.mk (drop_rd l i HI.out.1 hi)
      have hw := Aside0.mk (wrap_at i l.length HI.out.1 hi HC.out.2.1)
      obtain ⟨ad, A3, c3, ha, hx0, hx1, hx2, hx3, hl3, hi3⟩ := at_T24 HC.out i HI.out.1 hi
      cases ha
      replace hx0 := (HB.out.cell (World.block_lt_of_cell? w0 _ hx0)).trans hx0
      replace hx1 := (HB.out.cell (World.block_lt_of_cell? w0 _ hx1)).trans hx1
      replace hx2 := (HB.out.cell (World.block_lt_of_cell? w0 _ hx2)).trans hx2
      replace hx3 := (HB.out.cell (World.block_lt_of_cell? w0 _ hx3)).trans hx3
      have hfx := HF.out _ hm.out
      have hix := IH.out _ hm.out
      have hi1 := eq_true HI.out.1
      replace hi := eq_true hi
      clear hm
      generalize rd_T24 l i = x at *
      have HY : Aside0 ((ys ++ encV x) ++ encL (l.drop (i + 1).toNat) = l0 ++ 3 :: (numL l.length ++ encL l)) := ⟨by rw [← HE.out, hd.out, encL, List.append_assoc]⟩
      have hlen : ys.length + (encV x).length < 140737488355328 := by
        have h1 := congrArg List.length HY.out
        have h2 := HL.out
        simp at h1
        omega
      obtain ⟨xk, xn, xs, xl⟩ := x
      have hk := kind_of_formed hfx
      have C := Aside0.mk (fun (wx : World) (hb : Below w0.heap.size w0 wx) (hr : Kd.R (Kd.int .u8) 5 wx w0.heap.size (fun k_ => some k_ = u0.ownBlock) u0 ys) (hw : IsW wx gv gw) => hix (fun k_ => some k_ = u0.ownBlock) u0 ys A3 c3 w0 wx gv gw hb hr hi3 hl3 hw (fun hs => Kd.R_ne hr hw.v (by decide) hs) (fun hs => Kd.R_ne hr hw.t (by decide) hs) hlen hfx)
      clear hix hi3 hl3 hlen hfx
      simp only at hk
      rcases hk with rfl | rfl | rfl
      · go_wp2
        have HX := Aside0.mk (show Below w0.heap.size w0 (wr.alloc (.cells #[.int .i64 1, .int .i64 xn, .string xs, .slice A3 xl.length c3] 24)).drew ∧ Kd.R (Kd.int .u8) 5 (wr.alloc (.cells #[.int .i64 1, .int .i64 xn, .string xs, .slice A3 xl.length c3] 24)).drew w0.heap.size (fun k_ => some k_ = u0.ownBlock) u0 ys ∧ IsW (wr.alloc (.cells #[.int .i64 1, .int .i64 xn, .string xs, .slice A3 xl.length c3] 24)).drew gv gw ∧ Kept w (wr.alloc (.cells #[.int .i64 1, .int .i64 xn, .string xs, .slice A3 xl.length c3] 24)).drew (fun k_ => P0_ k_) from ⟨below_drew1 (below_alloc HB.out _), Kd.R_drew (Kd.R_alloc (Kd.R_tight rfl HO.out) _), ⟨blk_drew (blk_alloc HW.out.v _), blk_drew (blk_alloc HW.out.t _)⟩, Kept.drew (Kept.alloc HK.out _)⟩)
        have HOk := Aside0.mk (show ∀ k_, u0.ownBlock = some k_ → (P0_ k_ ∨ w.heap.size ≤ k_) from HO.out.1)
        have BX := Aside0.mk (show (wr.alloc (.cells #[.int .i64 1, .int .i64 xn, .string xs, .slice A3 xl.length c3] 24)).drew.heap[wr.heap.size]? = some (.cells #[.int .i64 1, .int .i64 xn, .string xs, .slice A3 xl.length c3] 24 (0, 0)) from blk_drew (blk_new wr _))
        clear HB HO HW HK
        obtain ⟨gx, hgx⟩ : ∃ g : Nat, wr.heap.size = g := ⟨_, rfl⟩
        rw [hgx] at BX
        simp only [hgx]
        have hgx' := Aside0.mk hgx
        clear hgx
        refine start_ (n := 11) (S := fun w' => w'.cell? ⟨gv, 0, none⟩ = some (.pointer (some ⟨gw, 0, none⟩)) ∧ w'.cell? ⟨gw, 1, none⟩ = some (.func (Fn.func 33) #[] #[]) ∧ w'.cell? ⟨gx, 0, none⟩ = some (.int .i64 1) ∧ w'.cell? ⟨gx, 1, none⟩ = some (.int .i64 xn) ∧ w'.cell? ⟨gx, 2, none⟩ = some (.string xs) ∧ w'.cell? ⟨gx, 3, none⟩ = some (.slice A3 xl.length c3)) (ds := []) #[false, false, false, false, false, false, false, false, false, false, false] (by kernel_rfl) rfl rfl ⟨(blk_cell HX.out.2.2.1.v 0).trans rfl, (blk_cell HX.out.2.2.1.t 1).trans rfl, (blk_cell BX.out 0).trans rfl, (blk_cell BX.out 1).trans rfl, (blk_cell BX.out 2).trans rfl, (blk_cell BX.out 3).trans rfl⟩ (fun hHeld => ?_)
        generalize (wr.alloc (.cells #[.int .i64 1, .int .i64 xn, .string xs, .slice A3 xl.length c3] 24)).drew = wx at HX BX hHeld ⊢
        refine take_ (i := 0) (N := some 23) (v := ?_) (a' := ?_) #[true, false, false, false, false, false, false, false, false, false, false] rfl rfl (by kernel_rfl) (fun _ _ _ h => h) (Or.inl ⟨by rfl, ?_⟩) hHeld ?_ ?_
        rotate_left
        · rintro w' ⟨s0, s1, s2, s3, s4, s5⟩
          go_simp
          with_reducible rfl
        rotate_left
        · simp only [Act.put, List.setIfInBounds_toArray, List.set_cons_zero, List.set_cons_succ, i64_w, i32_w]
          rfl
        refine pure_ (i := 1) (N := some 24) (v := ?_) (a' := ?_) #[true, true, false, false, false, false, false, false, false, false, false] rfl rfl (by kernel_rfl) (fun _ _ _ h => h) (Or.inl ⟨by rfl, ?_⟩) ?_ ?_
        rotate_left
        · intro w'
          go_simp
          with_reducible rfl
        rotate_left
        · simp only [Act.put, List.setIfInBounds_toArray, List.set_cons_zero, List.set_cons_succ, i64_w, i32_w]
          rfl
        refine take_ (i := 2) (N := some 25) (v := ?_) (a' := ?_) #[true, true, true, false, false, false, false, false, false, false, false] rfl rfl (by kernel_rfl) (fun _ _ _ h => h) (Or.inl ⟨by rfl, ?_⟩) hHeld ?_ ?_
        rotate_left
        · rintro w' ⟨s0, s1, s2, s3, s4, s5⟩
          go_simp
          with_reducible rfl
        rotate_left
        · simp only [Act.put, List.setIfInBounds_toArray, List.set_cons_zero, List.set_cons_succ, i64_w, i32_w]
          rfl
        refine pure_ (i := 3) (N := some 26) (v := ?_) (a' := ?_) #[true, true, true, true, false, false, false, false, false, false, false] rfl rfl (by kernel_rfl) (fun _ _ _ h => h) (Or.inl ⟨by rfl, ?_⟩) ?_ ?_
        rotate_left
        · intro w'
          go_simp
          with_reducible rfl
        rotate_left
        · simp only [Act.put, List.setIfInBounds_toArray, List.set_cons_zero, List.set_cons_succ, i64_w, i32_w]
          rfl
        refine pure_ (i := 4) (N := some 27) (v := ?_) (a' := ?_) #[true, true, true, true, true, false, false, false, false, false, false] rfl rfl (by kernel_rfl) (fun _ _ _ h => h) (Or.inl ⟨by rfl, ?_⟩) ?_ ?_
        rotate_left
        · intro w'
          go_simp
          with_reducible rfl
        rotate_left
        · simp only [Act.put, List.setIfInBounds_toArray, List.set_cons_zero, List.set_cons_succ, i64_w, i32_w]
          rfl
        refine pure_ (i := 5) (N := some 28) (v := ?_) (a' := ?_) #[true, true, true, true, true, true, false, false, false, false, false] rfl rfl (by kernel_rfl) (fun _ _ _ h => h) (Or.inl ⟨by rfl, ?_⟩) ?_ ?_
        rotate_left
        · intro w'
          go_simp
          with_reducible rfl
        rotate_left
        · simp only [Act.put, List.setIfInBounds_toArray, List.set_cons_zero, List.set_cons_succ, i64_w, i32_w]
          rfl
        refine take_ (i := 6) (N := some 29) (v := ?_) (a' := ?_) #[true, true, true, true, true, true, true, false, false, false, false] rfl rfl (by kernel_rfl) (fun _ _ _ h => h) (Or.inl ⟨by rfl, ?_⟩) hHeld ?_ ?_
        rotate_left
        · rintro w' ⟨s0, s1, s2, s3, s4, s5⟩
          go_simp
          with_reducible rfl
        rotate_left
        · simp only [Act.put, List.setIfInBounds_toArray, List.set_cons_zero, List.set_cons_succ, i64_w, i32_w]
          rfl
        refine pure_ (i := 7) (N := some 30) (v := ?_) (a' := ?_) #[true, true, true, true, true, true, true, true, false, false, false] rfl rfl (by kernel_rfl) (fun _ _ _ h => h) (Or.inl ⟨by rfl, ?_⟩) ?_ ?_
        rotate_left
        · intro w'
          go_simp
          with_reducible rfl
        rotate_left
        · simp only [Act.put, List.setIfInBounds_toArray, List.set_cons_zero, List.set_cons_succ, i64_w, i32_w]
          rfl
        refine take_ (i := 8) (N := some 31) (v := ?_) (a' := ?_) #[true, true, true, true, true, true, true, true, true, false, false] rfl rfl (by kernel_rfl) (fun _ _ _ h => h) (Or.inl ⟨by rfl, ?_⟩) hHeld ?_ ?_
        rotate_left
        · rintro w' ⟨s0, s1, s2, s3, s4, s5⟩
          go_simp
          with_reducible rfl
        rotate_left
        · simp only [Act.put, List.setIfInBounds_toArray, List.set_cons_zero, List.set_cons_succ, i64_w, i32_w]
          rfl
        refine one_ (i := 9) (N := some 32) #[true, true, true, true, true, true, true, true, true, true, false] rfl rfl (by kernel_rfl) (by decide) (fun K hK => ?_)
        refine goesV_ Try.func33 (by kernel_rfl) rfl #[u0, .agg #[.int .i64 1, .int .i64 xn, .string xs, .slice A3 xl.length c3]] (by rfl) rfl rfl (by rfl) (by (try simp only [List.map_toArray, List.map_cons, List.map_nil]); first | done | rfl | simp) ?_
        refine (C.out wx HX.out.1 HX.out.2.1 HX.out.2.2.1).mono ?_
        rintro e w2 ⟨v2, rfl, hr2, hb2, hk2⟩
        refine ⟨_, rfl, ?_⟩
        have BX2 := Aside0.mk (blk_kept BX.out hk2 (fun hs_ => Kd.R_ne HX.out.2.1 BX.out (by decide) hs_))
        have BV2 := Aside0.mk (blk_kept HX.out.2.2.1.v hk2 (fun hs_ => Kd.R_ne HX.out.2.1 HX.out.2.2.1.v (by decide) hs_))
        have BT2 := Aside0.mk (blk_kept HX.out.2.2.1.t hk2 (fun hs_ => Kd.R_ne HX.out.2.1 HX.out.2.2.1.t (by decide) hs_))
        have HO2 := Aside0.mk (Kd.R_mono (ok' := fun k_ => (P0_ k_ ∨ w.heap.size ≤ k_)) hr2 (fun k_ hk_ => Or.elim hk_ (fun hs_ => HX.out.2.1.1 k_ hs_.symm |> fun z => HOk.out k_ hs_.symm) (fun hn_ => .inr (Nat.le_trans HX.out.2.2.2.1 hn_))))
        have HK2 := Aside0.mk (Kept.then_ (S := (fun k_ => P0_ k_)) HX.out.2.2.2 hk2 (fun k_ hs_ => HOk.out k_ hs_.symm))
        have HB2 := Aside0.mk hb2
        clear hr2 hb2 hk2
        refine hK.out _ _ ⟨(blk_cell BV2.out 0).trans rfl, (blk_cell BT2.out 1).trans rfl, (blk_cell BX2.out 0).trans rfl, (blk_cell BX2.out 1).trans rfl, (blk_cell BX2.out 2).trans rfl, (blk_cell BX2.out 3).trans rfl⟩ (fun hHeld => ?_)
        clear hK K
        refine norm_ (a' := ?_) ?_ ?_
        rotate_left
        · show Act.put _ (some 32) _ = _
          simp only [Act.put, List.setIfInBounds_toArray, List.set_cons_zero, List.set_cons_succ, i64_w, i32_w]
          rfl
        refine pure_ (i := 10) (N := some 0) (v := ?_) (a' := ?_) #[true, true, true, true, true, true, true, true, true, true, true] rfl rfl (by kernel_rfl) (fun _ _ _ h => h) (Or.inl ⟨by rfl, ?_⟩) ?_ ?_
        rotate_left
        · intro w'
          go_simp
          with_reducible rfl
        rotate_left
        · simp only [Act.put, List.setIfInBounds_toArray, List.set_cons_zero, List.set_cons_succ, i64_w, i32_w]
          rfl
        refine done_ (by kernel_rfl) ?_

        try go_wp2
        go_roundg (gk - 1)
        case measure => have := HI.out; have := of_eq_true hi; omega
        case rel => exact ⟨i + 1, _, by first | rfl | rw [hw.out], ⟨by have := HI.out; have := of_eq_true hi; omega⟩, ⟨HY.out⟩, HO2, HB2, HK2, ⟨⟨BV2.out, BT2.out⟩⟩⟩

      · go_wp2
        have HX := Aside0.mk (show Below w0.heap.size w0 (wr.alloc (.cells #[.int .i64 2, .int .i64 xn, .string xs, .slice A3 xl.length c3] 24)).drew ∧ Kd.R (Kd.int .u8) 5 (wr.alloc (.cells #[.int .i64 2, .int .i64 xn, .string xs, .slice A3 xl.length c3] 24)).drew w0.heap.size (fun k_ => some k_ = u0.ownBlock) u0 ys ∧ IsW (wr.alloc (.cells #[.int .i64 2, .int .i64 xn, .string xs, .slice A3 xl.length c3] 24)).drew gv gw ∧ Kept w (wr.alloc (.cells #[.int .i64 2, .int .i64 xn, .string xs, .slice A3 xl.length c3] 24)).drew (fun k_ => P0_ k_) from ⟨below_drew1 (below_alloc HB.out _), Kd.R_drew (Kd.R_alloc (Kd.R_tight rfl HO.out) _), ⟨blk_drew (blk_alloc HW.out.v _), blk_drew (blk_alloc HW.out.t _)⟩, Kept.drew (Kept.alloc HK.out _)⟩)
        have HOk := Aside0.mk (show ∀ k_, u0.ownBlock = some k_ → (P0_ k_ ∨ w.heap.size ≤ k_) from HO.out.1)
        have BX := Aside0.mk (show (wr.alloc (.cells #[.int .i64 2, .int .i64 xn, .string xs, .slice A3 xl.length c3] 24)).drew.heap[wr.heap.size]? = some (.cells #[.int .i64 2, .int .i64 xn, .string xs, .slice A3 xl.length c3] 24 (0, 0)) from blk_drew (blk_new wr _))
        clear HB HO HW HK
        obtain ⟨gx, hgx⟩ : ∃ g : Nat, wr.heap.size = g := ⟨_, rfl⟩
        rw [hgx] at BX
        simp only [hgx]
        have hgx' := Aside0.mk hgx
        clear hgx
        refine start_ (n := 11) (S := fun w' => w'.cell? ⟨gv, 0, none⟩ = some (.pointer (some ⟨gw, 0, none⟩)) ∧ w'.cell? ⟨gw, 2, none⟩ = some (.func (Fn.func 36) #[] #[]) ∧ w'.cell? ⟨gx, 0, none⟩ = some (.int .i64 2) ∧ w'.cell? ⟨gx, 1, none⟩ = some (.int .i64 xn) ∧ w'.cell? ⟨gx, 2, none⟩ = some (.string xs) ∧ w'.cell? ⟨gx, 3, none⟩ = some (.slice A3 xl.length c3)) (ds := []) #[false, false, false, false, false, false, false, false, false, false, false] (by kernel_rfl) rfl rfl ⟨(blk_cell HX.out.2.2.1.v 0).trans rfl, (blk_cell HX.out.2.2.1.t 2).trans rfl, (blk_cell BX.out 0).trans rfl, (blk_cell BX.out 1).trans rfl, (blk_cell BX.out 2).trans rfl, (blk_cell BX.out 3).trans rfl⟩ (fun hHeld => ?_)
        generalize (wr.alloc (.cells #[.int .i64 2, .int .i64 xn, .string xs, .slice A3 xl.length c3] 24)).drew = wx at HX BX hHeld ⊢
        refine take_ (i := 0) (N := some 23) (v := ?_) (a' := ?_) #[true, false, false, false, false, false, false, false, false, false, false] rfl rfl (by kernel_rfl) (fun _ _ _ h => h) (Or.inl ⟨by rfl, ?_⟩) hHeld ?_ ?_
        rotate_left
        · rintro w' ⟨s0, s1, s2, s3, s4, s5⟩
          go_simp
          with_reducible rfl
        rotate_left
        · simp only [Act.put, List.setIfInBounds_toArray, List.set_cons_zero, List.set_cons_succ, i64_w, i32_w]
          rfl
        refine pure_ (i := 1) (N := some 24) (v := ?_) (a' := ?_) #[true, true, false, false, false, false, false, false, false, false, false] rfl rfl (by kernel_rfl) (fun _ _ _ h => h) (Or.inl ⟨by rfl, ?_⟩) ?_ ?_
        rotate_left
        · intro w'
          go_simp
          with_reducible rfl
        rotate_left
        · simp only [Act.put, List.setIfInBounds_toArray, List.set_cons_zero, List.set_cons_succ, i64_w, i32_w]
          rfl
        refine take_ (i := 2) (N := some 25) (v := ?_) (a' := ?_) #[true, true, true, false, false, false, false, false, false, false, false] rfl rfl (by kernel_rfl) (fun _ _ _ h => h) (Or.inl ⟨by rfl, ?_⟩) hHeld ?_ ?_
        rotate_left
        · rintro w' ⟨s0, s1, s2, s3, s4, s5⟩
          go_simp
          with_reducible rfl
        rotate_left
        · simp only [Act.put, List.setIfInBounds_toArray, List.set_cons_zero, List.set_cons_succ, i64_w, i32_w]
          rfl
        refine pure_ (i := 3) (N := some 26) (v := ?_) (a' := ?_) #[true, true, true, true, false, false, false, false, false, false, false] rfl rfl (by kernel_rfl) (fun _ _ _ h => h) (Or.inl ⟨by rfl, ?_⟩) ?_ ?_
        rotate_left
        · intro w'
          go_simp
          with_reducible rfl
        rotate_left
        · simp only [Act.put, List.setIfInBounds_toArray, List.set_cons_zero, List.set_cons_succ, i64_w, i32_w]
          rfl
        refine pure_ (i := 4) (N := some 27) (v := ?_) (a' := ?_) #[true, true, true, true, true, false, false, false, false, false, false] rfl rfl (by kernel_rfl) (fun _ _ _ h => h) (Or.inl ⟨by rfl, ?_⟩) ?_ ?_
        rotate_left
        · intro w'
          go_simp
          with_reducible rfl
        rotate_left
        · simp only [Act.put, List.setIfInBounds_toArray, List.set_cons_zero, List.set_cons_succ, i64_w, i32_w]
          rfl
        refine pure_ (i := 5) (N := some 28) (v := ?_) (a' := ?_) #[true, true, true, true, true, true, false, false, false, false, false] rfl rfl (by kernel_rfl) (fun _ _ _ h => h) (Or.inl ⟨by rfl, ?_⟩) ?_ ?_
        rotate_left
        · intro w'
          go_simp
          with_reducible rfl
        rotate_left
        · simp only [Act.put, List.setIfInBounds_toArray, List.set_cons_zero, List.set_cons_succ, i64_w, i32_w]
          rfl
        refine take_ (i := 6) (N := some 29) (v := ?_) (a' := ?_) #[true, true, true, true, true, true, true, false, false, false, false] rfl rfl (by kernel_rfl) (fun _ _ _ h => h) (Or.inl ⟨by rfl, ?_⟩) hHeld ?_ ?_
        rotate_left
        · rintro w' ⟨s0, s1, s2, s3, s4, s5⟩
          go_simp
          with_reducible rfl
        rotate_left
        · simp only [Act.put, List.setIfInBounds_toArray, List.set_cons_zero, List.set_cons_succ, i64_w, i32_w]
          rfl
        refine pure_ (i := 7) (N := some 30) (v := ?_) (a' := ?_) #[true, true, true, true, true, true, true, true, false, false, false] rfl rfl (by kernel_rfl) (fun _ _ _ h => h) (Or.inl ⟨by rfl, ?_⟩) ?_ ?_
        rotate_left
        · intro w'
          go_simp
          with_reducible rfl
        rotate_left
        · simp only [Act.put, List.setIfInBounds_toArray, List.set_cons_zero, List.set_cons_succ, i64_w, i32_w]
          rfl
        refine take_ (i := 8) (N := some 31) (v := ?_) (a' := ?_) #[true, true, true, true, true, true, true, true, true, false, false] rfl rfl (by kernel_rfl) (fun _ _ _ h => h) (Or.inl ⟨by rfl, ?_⟩) hHeld ?_ ?_
        rotate_left
        · rintro w' ⟨s0, s1, s2, s3, s4, s5⟩
          go_simp
          with_reducible rfl
        rotate_left
        · simp only [Act.put, List.setIfInBounds_toArray, List.set_cons_zero, List.set_cons_succ, i64_w, i32_w]
          rfl
        refine one_ (i := 9) (N := some 32) #[true, true, true, true, true, true, true, true, true, true, false] rfl rfl (by kernel_rfl) (by decide) (fun K hK => ?_)
        refine goesV_ Try.func36 (by kernel_rfl) rfl #[u0, .agg #[.int .i64 2, .int .i64 xn, .string xs, .slice A3 xl.length c3]] (by rfl) rfl rfl (by rfl) (by (try simp only [List.map_toArray, List.map_cons, List.map_nil]); first | done | rfl | simp) ?_
        refine (C.out wx HX.out.1 HX.out.2.1 HX.out.2.2.1).mono ?_
        rintro e w2 ⟨v2, rfl, hr2, hb2, hk2⟩
        refine ⟨_, rfl, ?_⟩
        have BX2 := Aside0.mk (blk_kept BX.out hk2 (fun hs_ => Kd.R_ne HX.out.2.1 BX.out (by decide) hs_))
        have BV2 := Aside0.mk (blk_kept HX.out.2.2.1.v hk2 (fun hs_ => Kd.R_ne HX.out.2.1 HX.out.2.2.1.v (by decide) hs_))
        have BT2 := Aside0.mk (blk_kept HX.out.2.2.1.t hk2 (fun hs_ => Kd.R_ne HX.out.2.1 HX.out.2.2.1.t (by decide) hs_))
        have HO2 := Aside0.mk (Kd.R_mono (ok' := fun k_ => (P0_ k_ ∨ w.heap.size ≤ k_)) hr2 (fun k_ hk_ => Or.elim hk_ (fun hs_ => HX.out.2.1.1 k_ hs_.symm |> fun z => HOk.out k_ hs_.symm) (fun hn_ => .inr (Nat.le_trans HX.out.2.2.2.1 hn_))))
        have HK2 := Aside0.mk (Kept.then_ (S := (fun k_ => P0_ k_)) HX.out.2.2.2 hk2 (fun k_ hs_ => HOk.out k_ hs_.symm))
        have HB2 := Aside0.mk hb2
        clear hr2 hb2 hk2
        refine hK.out _ _ ⟨(blk_cell BV2.out 0).trans rfl, (blk_cell BT2.out 2).trans rfl, (blk_cell BX2.out 0).trans rfl, (blk_cell BX2.out 1).trans rfl, (blk_cell BX2.out 2).trans rfl, (blk_cell BX2.out 3).trans rfl⟩ (fun hHeld => ?_)
        clear hK K
        refine norm_ (a' := ?_) ?_ ?_
        rotate_left
        · show Act.put _ (some 32) _ = _
          simp only [Act.put, List.setIfInBounds_toArray, List.set_cons_zero, List.set_cons_succ, i64_w, i32_w]
          rfl
        refine pure_ (i := 10) (N := some 0) (v := ?_) (a' := ?_) #[true, true, true, true, true, true, true, true, true, true, true] rfl rfl (by kernel_rfl) (fun _ _ _ h => h) (Or.inl ⟨by rfl, ?_⟩) ?_ ?_
        rotate_left
        · intro w'
          go_simp
          with_reducible rfl
        rotate_left
        · simp only [Act.put, List.setIfInBounds_toArray, List.set_cons_zero, List.set_cons_succ, i64_w, i32_w]
          rfl
        refine done_ (by kernel_rfl) ?_

        try go_wp2
        go_roundg (gk - 1)
        case measure => have := HI.out; have := of_eq_true hi; omega
        case rel => exact ⟨i + 1, _, by first | rfl | rw [hw.out], ⟨by have := HI.out; have := of_eq_true hi; omega⟩, ⟨HY.out⟩, HO2, HB2, HK2, ⟨⟨BV2.out, BT2.out⟩⟩⟩

      · go_wp2
        have HX := Aside0.mk (show Below w0.heap.size w0 (wr.alloc (.cells #[.int .i64 3, .int .i64 xn, .string xs, .slice A3 xl.length c3] 24)).drew ∧ Kd.R (Kd.int .u8) 5 (wr.alloc (.cells #[.int .i64 3, .int .i64 xn, .string xs, .slice A3 xl.length c3] 24)).drew w0.heap.size (fun k_ => some k_ = u0.ownBlock) u0 ys ∧ IsW (wr.alloc (.cells #[.int .i64 3, .int .i64 xn, .string xs, .slice A3 xl.length c3] 24)).drew gv gw ∧ Kept w (wr.alloc (.cells #[.int .i64 3, .int .i64 xn, .string xs, .slice A3 xl.length c3] 24)).drew (fun k_ => P0_ k_) from ⟨below_drew1 (below_alloc HB.out _), Kd.R_drew (Kd.R_alloc (Kd.R_tight rfl HO.out) _), ⟨blk_drew (blk_alloc HW.out.v _), blk_drew (blk_alloc HW.out.t _)⟩, Kept.drew (Kept.alloc HK.out _)⟩)
        have HOk := Aside0.mk (show ∀ k_, u0.ownBlock = some k_ → (P0_ k_ ∨ w.heap.size ≤ k_) from HO.out.1)
        have BX := Aside0.mk (show (wr.alloc (.cells #[.int .i64 3, .int .i64 xn, .string xs, .slice A3 xl.length c3] 24)).drew.heap[wr.heap.size]? = some (.cells #[.int .i64 3, .int .i64 xn, .string xs, .slice A3 xl.length c3] 24 (0, 0)) from blk_drew (blk_new wr _))
        clear HB HO HW HK
        obtain ⟨gx, hgx⟩ : ∃ g : Nat, wr.heap.size = g := ⟨_, rfl⟩
        rw [hgx] at BX
        simp only [hgx]
        have hgx' := Aside0.mk hgx
        clear hgx
        refine start_ (n := 11) (S := fun w' => w'.cell? ⟨gv, 0, none⟩ = some (.pointer (some ⟨gw, 0, none⟩)) ∧ w'.cell? ⟨gw, 3, none⟩ = some (.func (Fn.func 37) #[] #[.pointer (some ⟨gv, 0, none⟩)]) ∧ w'.cell? ⟨gx, 0, none⟩ = some (.int .i64 3) ∧ w'.cell? ⟨gx, 1, none⟩ = some (.int .i64 xn) ∧ w'.cell? ⟨gx, 2, none⟩ = some (.string xs) ∧ w'.cell? ⟨gx, 3, none⟩ = some (.slice A3 xl.length c3)) (ds := []) #[false, false, false, false, false, false, false, false, false, false, false] (by kernel_rfl) rfl rfl ⟨(blk_cell HX.out.2.2.1.v 0).trans rfl, (blk_cell HX.out.2.2.1.t 3).trans rfl, (blk_cell BX.out 0).trans rfl, (blk_cell BX.out 1).trans rfl, (blk_cell BX.out 2).trans rfl, (blk_cell BX.out 3).trans rfl⟩ (fun hHeld => ?_)
        generalize (wr.alloc (.cells #[.int .i64 3, .int .i64 xn, .string xs, .slice A3 xl.length c3] 24)).drew = wx at HX BX hHeld ⊢
        refine take_ (i := 0) (N := some 23) (v := ?_) (a' := ?_) #[true, false, false, false, false, false, false, false, false, false, false] rfl rfl (by kernel_rfl) (fun _ _ _ h => h) (Or.inl ⟨by rfl, ?_⟩) hHeld ?_ ?_
        rotate_left
        · rintro w' ⟨s0, s1, s2, s3, s4, s5⟩
          go_simp
          with_reducible rfl
        rotate_left
        · simp only [Act.put, List.setIfInBounds_toArray, List.set_cons_zero, List.set_cons_succ, i64_w, i32_w]
          rfl
        refine pure_ (i := 1) (N := some 24) (v := ?_) (a' := ?_) #[true, true, false, false, false, false, false, false, false, false, false] rfl rfl (by kernel_rfl) (fun _ _ _ h => h) (Or.inl ⟨by rfl, ?_⟩) ?_ ?_
        rotate_left
        · intro w'
          go_simp
          with_reducible rfl
        rotate_left
        · simp only [Act.put, List.setIfInBounds_toArray, List.set_cons_zero, List.set_cons_succ, i64_w, i32_w]
          rfl
        refine take_ (i := 2) (N := some 25) (v := ?_) (a' := ?_) #[true, true, true, false, false, false, false, false, false, false, false] rfl rfl (by kernel_rfl) (fun _ _ _ h => h) (Or.inl ⟨by rfl, ?_⟩) hHeld ?_ ?_
        rotate_left
        · rintro w' ⟨s0, s1, s2, s3, s4, s5⟩
          go_simp
          with_reducible rfl
        rotate_left
        · simp only [Act.put, List.setIfInBounds_toArray, List.set_cons_zero, List.set_cons_succ, i64_w, i32_w]
          rfl
        refine pure_ (i := 3) (N := some 26) (v := ?_) (a' := ?_) #[true, true, true, true, false, false, false, false, false, false, false] rfl rfl (by kernel_rfl) (fun _ _ _ h => h) (Or.inl ⟨by rfl, ?_⟩) ?_ ?_
        rotate_left
        · intro w'
          go_simp
          with_reducible rfl
        rotate_left
        · simp only [Act.put, List.setIfInBounds_toArray, List.set_cons_zero, List.set_cons_succ, i64_w, i32_w]
          rfl
        refine pure_ (i := 4) (N := some 27) (v := ?_) (a' := ?_) #[true, true, true, true, true, false, false, false, false, false, false] rfl rfl (by kernel_rfl) (fun _ _ _ h => h) (Or.inl ⟨by rfl, ?_⟩) ?_ ?_
        rotate_left
        · intro w'
          go_simp
          with_reducible rfl
        rotate_left
        · simp only [Act.put, List.setIfInBounds_toArray, List.set_cons_zero, List.set_cons_succ, i64_w, i32_w]
          rfl
        refine pure_ (i := 5) (N := some 28) (v := ?_) (a' := ?_) #[true, true, true, true, true, true, false, false, false, false, false] rfl rfl (by kernel_rfl) (fun _ _ _ h => h) (Or.inl ⟨by rfl, ?_⟩) ?_ ?_
        rotate_left
        · intro w'
          go_simp
          with_reducible rfl
        rotate_left
        · simp only [Act.put, List.setIfInBounds_toArray, List.set_cons_zero, List.set_cons_succ, i64_w, i32_w]
          rfl
        refine take_ (i := 6) (N := some 29) (v := ?_) (a' := ?_) #[true, true, true, true, true, true, true, false, false, false, false] rfl rfl (by kernel_rfl) (fun _ _ _ h => h) (Or.inl ⟨by rfl, ?_⟩) hHeld ?_ ?_
        rotate_left
        · rintro w' ⟨s0, s1, s2, s3, s4, s5⟩
          go_simp
          with_reducible rfl
        rotate_left
        · simp only [Act.put, List.setIfInBounds_toArray, List.set_cons_zero, List.set_cons_succ, i64_w, i32_w]
          rfl
        refine pure_ (i := 7) (N := some 30) (v := ?_) (a' := ?_) #[true, true, true, true, true, true, true, true, false, false, false] rfl rfl (by kernel_rfl) (fun _ _ _ h => h) (Or.inl ⟨by rfl, ?_⟩) ?_ ?_
        rotate_left
        · intro w'
          go_simp
          with_reducible rfl
        rotate_left
        · simp only [Act.put, List.setIfInBounds_toArray, List.set_cons_zero, List.set_cons_succ, i64_w, i32_w]
          rfl
        refine take_ (i := 8) (N := some 31) (v := ?_) (a' := ?_) #[true, true, true, true, true, true, true, true, true, false, false] rfl rfl (by kernel_rfl) (fun _ _ _ h => h) (Or.inl ⟨by rfl, ?_⟩) hHeld ?_ ?_
        rotate_left
        · rintro w' ⟨s0, s1, s2, s3, s4, s5⟩
          go_simp
          with_reducible rfl
        rotate_left
        · simp only [Act.put, List.setIfInBounds_toArray, List.set_cons_zero, List.set_cons_succ, i64_w, i32_w]
          rfl
        refine one_ (i := 9) (N := some 32) #[true, true, true, true, true, true, true, true, true, true, false] rfl rfl (by kernel_rfl) (by decide) (fun K hK => ?_)
        refine goesV_ Try.func37 (by kernel_rfl) rfl #[u0, .agg #[.int .i64 3, .int .i64 xn, .string xs, .slice A3 xl.length c3], .pointer (some ⟨gv, 0, none⟩)] (by rfl) rfl rfl (by rfl) (by (try simp only [List.map_toArray, List.map_cons, List.map_nil]); first | done | rfl | simp) ?_
        refine (C.out wx HX.out.1 HX.out.2.1 HX.out.2.2.1).mono ?_
        rintro e w2 ⟨v2, rfl, hr2, hb2, hk2⟩
        refine ⟨_, rfl, ?_⟩
        have BX2 := Aside0.mk (blk_kept BX.out hk2 (fun hs_ => Kd.R_ne HX.out.2.1 BX.out (by decide) hs_))
        have BV2 := Aside0.mk (blk_kept HX.out.2.2.1.v hk2 (fun hs_ => Kd.R_ne HX.out.2.1 HX.out.2.2.1.v (by decide) hs_))
        have BT2 := Aside0.mk (blk_kept HX.out.2.2.1.t hk2 (fun hs_ => Kd.R_ne HX.out.2.1 HX.out.2.2.1.t (by decide) hs_))
        have HO2 := Aside0.mk (Kd.R_mono (ok' := fun k_ => (P0_ k_ ∨ w.heap.size ≤ k_)) hr2 (fun k_ hk_ => Or.elim hk_ (fun hs_ => HX.out.2.1.1 k_ hs_.symm |> fun z => HOk.out k_ hs_.symm) (fun hn_ => .inr (Nat.le_trans HX.out.2.2.2.1 hn_))))
        have HK2 := Aside0.mk (Kept.then_ (S := (fun k_ => P0_ k_)) HX.out.2.2.2 hk2 (fun k_ hs_ => HOk.out k_ hs_.symm))
        have HB2 := Aside0.mk hb2
        clear hr2 hb2 hk2
        refine hK.out _ _ ⟨(blk_cell BV2.out 0).trans rfl, (blk_cell BT2.out 3).trans rfl, (blk_cell BX2.out 0).trans rfl, (blk_cell BX2.out 1).trans rfl, (blk_cell BX2.out 2).trans rfl, (blk_cell BX2.out 3).trans rfl⟩ (fun hHeld => ?_)
        clear hK K
        refine norm_ (a' := ?_) ?_ ?_
        rotate_left
        · show Act.put _ (some 32) _ = _
          simp only [Act.put, List.setIfInBounds_toArray, List.set_cons_zero, List.set_cons_succ, i64_w, i32_w]
          rfl
        refine pure_ (i := 10) (N := some 0) (v := ?_) (a' := ?_) #[true, true, true, true, true, true, true, true, true, true, true] rfl rfl (by kernel_rfl) (fun _ _ _ h => h) (Or.inl ⟨by rfl, ?_⟩) ?_ ?_
        rotate_left
        · intro w'
          go_simp
          with_reducible rfl
        rotate_left
        · simp only [Act.put, List.setIfInBounds_toArray, List.set_cons_zero, List.set_cons_succ, i64_w, i32_w]
          rfl
        refine done_ (by kernel_rfl) ?_

        try go_wp2
        go_roundg (gk - 1)
        case measure => have := HI.out; have := of_eq_true hi; omega
        case rel => exact ⟨i + 1, _, by first | rfl | rw [hw.out], ⟨by have := HI.out; have := of_eq_true hi; omega⟩, ⟨HY.out⟩, HO2, HB2, HK2, ⟨⟨BV2.out, BT2.out⟩⟩⟩

    · have hi0 : decide (i < (l.length : Int)) = false := decide_eq_false hi
      have hy : ys = l0 ++ 3 :: (numL l.length ++ encL l) := by
        rw [← HE.out, List.drop_eq_nil_of_le (by omega), encL, List.append_nil]
      have HY := Aside0.mk hy
      clear hy
      go_wp2
      go_ret
      exact ⟨_, rfl, HY.out ▸ HO.out, HB.out, HK.out⟩
end Go.Proofs.Ytgnkjhppfenmaaa.Q
