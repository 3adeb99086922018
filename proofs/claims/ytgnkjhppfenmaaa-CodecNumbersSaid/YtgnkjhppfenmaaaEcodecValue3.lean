/- The reader of codec: lists, and every value. -/
import Derived.Test.YtgnkjhppfenmaaaEcodecValue
namespace Go.Proofs.Ytgnkjhppfenmaaa.Q
open Go.RowKit Go.Proofs.YtgnkjhppfenmaaaW.PrintWords Go.Proofs.YtgnkjhppfenmaaaW.PrintLast Go.Proofs.YtgnkjhppfenmaaaW.PrintMore
section
variable {P : Program} {ops : Array Oper} {a : Act} {Kc : Act → World → Prop} {Q : Exit → Act → World → Prop}
/-- A call that may end in a panic. -/
theorem goesP_ {oi : Oper} {N : Option Tmp} {w : World} {f : FuncId} {fn : Func} {ao : Array Operand} {ts : Array TypeId} (hf : P.funcs[f]? = some fn) (hname : (fn.name == "runtime.NumGoroutine") = false) (hb : fn.body.isSome = true) (args : Array Value)
    (hw : Region.wanted oi (yielded ops a.tmps) = true) (hN : oi.dst = N) (hop : oi.op = .call { callee := .value (.func f), args := ao, argTypes := ts }) (hargs : ao.map a.eval = args)
    (h : Calls P f args w fun e w' => (∃ v, e = .returned v ∧ Kc (a.put N v) w') ∨ (∃ ch, e = .panicked ch ∧ Q (.panic ch) a w')) : if Region.wanted oi (yielded ops a.tmps) = true then Oper.wp P oi a w Kc Q else Kc (a.put N undef) w := by
  rw [if_pos hw]
  subst hN
  have he := enters_ hf hname hb args w
  have hrun : (execOp a.eval oi).run P w = .ok (.enter f args) w := by
    unfold execOp
    simp [hop, resolve, Deferred.ofValue, invoke, Act.eval, hargs, he]
  unfold Oper.wp
  rw [hrun, Oper.upon_enter]
  refine h.mono fun e w'' hh => ?_
  rcases hh with ⟨v, rfl, hk⟩ | ⟨ch, rfl, hq⟩
  · exact hk
  · exact hq
end
theorem RD.lt {w0 W : World} {g : Nat} {xs : List Int} (h : RD w0 W g xs) : g < W.heap.size := by
  obtain ⟨A, c, h1, _⟩ := h
  exact blk_lt h1
theorem VS.grown {w0 w W W1 : World} {g gv : Nat} {cs : Array Value} {xs : List Int} {row : Option Nat} (h : VS w0 w W g gv cs xs) (hg : W.grownBy W1 row) (h0 : w0.heap.size ≤ W.heap.size) (hlt : g < w.heap.size) (hrow : ∀ k, row = some k → w.heap.size ≤ k) (h0w : w0.heap.size ≤ w.heap.size) (hgv : some gv ≠ row) : VS w0 w W1 g gv cs xs :=
  ⟨h.r.blk fun o ho => (hg.block g (blk_lt ho) (fun e => by have := hrow g e.symm; omega)).trans ho,
   ⟨h.k.b.grown hg h0 (fun k hk => Nat.le_trans h0w (hrow k hk)), ⟨Nat.le_trans h.k.k.1 hg.size, fun i hi hne hr => (hg.block i (Nat.lt_of_lt_of_le hi h.k.k.1) (fun e => by have := hrow i e.symm; omega)).trans (h.k.k.2 i hi hne hr)⟩⟩,
   blk_grown h.b hg hgv⟩
theorem VS.alloc {w0 w W : World} {g gv : Nat} {cs : Array Value} {xs : List Int} (h : VS w0 w W g gv cs xs) (h0 : w0.heap.size ≤ W.heap.size) (o : Obj) : VS w0 w (W.alloc o) g gv cs xs :=
  ⟨h.r.blk fun o' ho => blk_alloc ho _, h.k.alloc o h0, blk_alloc h.b _⟩
theorem VS.drew {w0 w W : World} {g gv : Nat} {cs : Array Value} {xs : List Int} (h : VS w0 w W g gv cs xs) : VS w0 w W.drew g gv cs xs :=
  ⟨h.r.blk fun o' ho => blk_drew ho, ⟨below_drew1 h.k.b, ⟨h.k.k.1, h.k.k.2⟩⟩, blk_drew h.b⟩
theorem rdNumA_suf : ∀ (xs : List Int) (i : Nat) (u : Int) (v : Int) (ys : List Int), rdNumA i u xs = some (v, ys) → ys <:+ xs
  | [], _, _, _, _, h => by cases h
  | c :: xs, i, u, v, ys, h => by
    rw [rdNumA] at h
    split at h
    · split at h
      · cases h
        exact List.suffix_cons _ _
      · exact (rdNumA_suf xs _ _ _ _ h).trans (List.suffix_cons _ _)
    · cases h
theorem rdLen_suf {xs : List Int} {m : Nat} {ys : List Int} (h : rdLen xs = some (m, ys)) : ys <:+ xs := by
  unfold rdLen at h
  split at h
  · next u r hr =>
    split at h
    · cases h
      exact rdNumA_suf _ _ _ _ _ hr
    · cases h
  · cases h
theorem rdMany_suf {f : List Int → Option (S24 × List Int)} (hf : ∀ xs v r, f xs = some (v, r) → r <:+ xs) : ∀ (m : Nat) (xs : List Int) (l : List S24) (r : List Int), rdMany f m xs = some (l, r) → r <:+ xs
  | 0, xs, l, r, h => by cases h; exact List.suffix_refl _
  | m + 1, xs, l, r, h => by
    rw [rdMany] at h
    split at h
    · next v r1 h1 =>
      split at h
      · next l2 r2 h2 =>
        cases h
        exact (rdMany_suf hf m _ _ _ h2).trans (hf _ _ _ h1)
      · cases h
    · cases h
theorem rdVal_suf : ∀ (n : Nat) (xs : List Int) (v : S24) (r : List Int), rdVal n xs = some (v, r) → r <:+ xs := by
  intro n
  induction n with
  | zero =>
    intro xs v r h
    cases xs with
    | nil => cases h
    | cons k xs =>
      rw [rdVal] at h
      split at h
      · split at h
        · next u r2 h2 => cases h; exact (rdNumA_suf _ _ _ _ _ h2).trans (List.suffix_cons _ _)
        · cases h
      · split at h
        · split at h
          · next m r2 h2 => cases h; exact ((List.drop_suffix _ _).trans (rdLen_suf h2)).trans (List.suffix_cons _ _)
          · cases h
        · split at h <;> cases h
  | succ n ih =>
    intro xs v r h
    cases xs with
    | nil => cases h
    | cons k xs =>
      rw [rdVal] at h
      split at h
      · split at h
        · next u r2 h2 => cases h; exact (rdNumA_suf _ _ _ _ _ h2).trans (List.suffix_cons _ _)
        · cases h
      · split at h
        · split at h
          · next m r2 h2 => cases h; exact ((List.drop_suffix _ _).trans (rdLen_suf h2)).trans (List.suffix_cons _ _)
          · cases h
        · split at h
          · split at h
            · next m r2 h2 =>
              split at h
              · next l r3 h3 =>
                cases h
                exact ((rdMany_suf ih _ _ _ _ h3).trans (rdLen_suf h2)).trans (List.suffix_cons _ _)
              · cases h
            · cases h
          · cases h
theorem bytes_suf {xs ys : List Int} (h : areBytes xs = true) (hs : ys <:+ xs) : areBytes ys = true := List.all_eq_true.2 fun x hx => List.all_eq_true.1 h x (hs.subset hx)
/-- what is said of the values within n lists more -/
def ValSays (n : Nat) : Prop := ∀ (d : Int) (w0 w : World) (g : Nat) (xs : List Int), 0 ≤ d → d + n = 16 → Below w0.heap.size w0 w → w0.heap.size ≤ g → RD w0 w g xs → areBytes xs = true → xs.length ≤ 1000000 →
    Calls Try.prog 28 #[.pointer (some ⟨g, 0, none⟩), .int .i64 d] w fun e w' => ValEnds w0 w w' g (rdVal n xs) e ∧ RK w0 w w' g
set_option maxHeartbeats 8000000 in
set_option maxRecDepth 100000 in
theorem value_deep {w0 w : World} {g : Nat} {xs : List Int} (hB : Below w0.heap.size w0 w) (hg : w0.heap.size ≤ g) (h : RD w0 w g (3 :: xs)) :
    Calls Try.prog 28 #[.pointer (some ⟨g, 0, none⟩), .int .i64 16] w fun e w' => e = .panicked codeErr ∧ RK w0 w w' g := by
  have V := Aside0.mk (VS.new hB h #[.int .i64 0, .int .i64 0, .string ⟨#[]⟩, .slice none 0 0])
  have HG := Aside0.mk hg
  have GV := Aside0.mk hB.size
  have W64 : wrap64 3 = 3 := by unfold wrap64; omega
  clear hB h hg
  go_enter Try.func28, Try.ntmps28
  go_upto_region 2 with (go_at_call 40; (refine (take_byte V.out.k.b HG.out V.out.r).mono ?_); rintro e w1 ⟨⟨ad, rfl, hz⟩, hd, hk⟩; have V1 := Aside0.mk (V.out.call hd hk); clear hd hk; have hcz := (blk_cell V1.out.b 0).trans rfl; have hcf := blk_frozen V1.out.b 0)
  have V2 := Aside0.mk (V1.out.set (Nat.le_refl _) GV.out 0 (.int .i64 3))
  clear V V1 hz hcz hcf
  generalize hgv : w.heap.size = gv at *
  have HV := Aside0.mk hgv
  clear hgv
  generalize w1.setCell ⟨gv, 0, none⟩ (.int .i64 3) = w2 at *
  have hcz := (blk_cell V2.out.b 0).trans rfl
  go_wp2_with (go_at_call 29; (refine (want_not _ _).mono ?_); rintro e w3 ⟨rfl, rfl⟩)
  exact ⟨rfl, rfl, V2.out.k⟩
set_option maxHeartbeats 8000000 in
set_option maxRecDepth 100000 in
theorem value_three {n : Nat} (IH : ValSays n) (d : Int) (hd0 : 0 ≤ d) (hd : d + (n + 1 : Nat) = 16) {w0 w : World} {g : Nat} {xs : List Int} (hB : Below w0.heap.size w0 w) (hg : w0.heap.size ≤ g) (h : RD w0 w g (3 :: xs)) (hx : areBytes xs = true) (hlx : xs.length ≤ 1000000) (r0 : Option (S24 × List Int)) (hr0 : (match rdLen xs with | some (m, r2) => (match rdMany (rdVal n) m r2 with | some (l, r3) => some (⟨3, 0, ⟨#[]⟩, l⟩, r3) | none => none) | none => none) = r0) :
    Calls Try.prog 28 #[.pointer (some ⟨g, 0, none⟩), .int .i64 d] w fun e w' => ValEnds w0 w w' g r0 e ∧ RK w0 w w' g := by
  have V := Aside0.mk (VS.new hB h #[.int .i64 0, .int .i64 0, .string ⟨#[]⟩, .slice none 0 0])
  have HG := Aside0.mk hg
  have GV := Aside0.mk hB.size
  have W64 : wrap64 3 = 3 := by unfold wrap64; omega
  have HX := Aside0.mk hx
  have GL0 := h.lt
  have IH := Aside0.mk IH
  have D0 : decide (d < 16) = true := decide_eq_true (by omega)
  have D1 := Aside0.mk (show d + 1 + (n : Int) = 16 by omega)
  have D2 := Aside0.mk (show 0 ≤ d + 1 by omega)
  have W1 := Aside0.mk (show wrap64 (d + 1) = d + 1 by unfold wrap64; omega)
  clear hB h hg hx hd hd0
  have C := fun (w' : World) (hB : Below w0.heap.size w0 w') (h : RD w0 w' g xs) => length_ends hB HG.out h HX.out
  cases hn : rdLen xs with
  | none =>
    rw [hn] at C hr0
    replace C := Aside0.mk C
    obtain rfl : none = r0 := hr0
    clear hn hlx
    go_enter Try.func28, Try.ntmps28
    go_upto_region 2 with (go_at_call 40; (refine (take_byte V.out.k.b HG.out V.out.r).mono ?_); rintro e w1 ⟨⟨ad, rfl, hz⟩, hd, hk⟩; have V1 := Aside0.mk (V.out.call hd hk); clear hd hk; have hcz := (blk_cell V1.out.b 0).trans rfl; have hcf := blk_frozen V1.out.b 0)
    have V2 := Aside0.mk (V1.out.set (Nat.le_refl _) GV.out 0 (.int .i64 3))
    clear V V1 hz hcz hcf
    generalize hgv : w.heap.size = gv at *
    have HV := Aside0.mk hgv
    clear hgv
    generalize w1.setCell ⟨gv, 0, none⟩ (.int .i64 3) = w2 at *
    have hcz := (blk_cell V2.out.b 0).trans rfl
    go_wp2_with (first | (go_at_call 29; (refine (want_ok _ _).mono ?_); rintro e w3 ⟨rfl, rfl⟩) | (go_at_call 43; (refine (C.out _ V2.out.k.b V2.out.r).mono ?_); rintro e w3 ⟨rfl, hk⟩))
    exact ⟨rfl, rfl, V2.out.k.trans hk⟩
  | some p =>
    obtain ⟨m, ys0⟩ := p
    have hm := (rdLen_len hn).2
    have HM := Aside0.mk (show m ≤ 1000000 by have := (rdLen_len hn).1; omega)
    have HY0 := Aside0.mk (show areBytes ys0 = true ∧ ys0.length ≤ 1000000 from ⟨bytes_suf HX.out (rdLen_suf hn), by have := (rdLen_len hn).1; omega⟩)
    rw [hn] at C hr0
    replace C := Aside0.mk C
    have HRES := Aside0.mk hr0
    clear hn hm hlx hr0
    go_enter Try.func28, Try.ntmps28
    go_upto_region 2 with (go_at_call 40; (refine (take_byte V.out.k.b HG.out V.out.r).mono ?_); rintro e w1 ⟨⟨ad, rfl, hz⟩, hd, hk⟩; have V1 := Aside0.mk (V.out.call hd hk); clear hd hk; have hcz := (blk_cell V1.out.b 0).trans rfl; have hcf := blk_frozen V1.out.b 0)
    have V2 := Aside0.mk (V1.out.set (Nat.le_refl _) GV.out 0 (.int .i64 3))
    clear V V1 hz hcz hcf
    generalize hgv : w.heap.size = gv at *
    have HV := Aside0.mk hgv
    clear hgv
    generalize w1.setCell ⟨gv, 0, none⟩ (.int .i64 3) = w2 at *
    have hcz := (blk_cell V2.out.b 0).trans rfl
    have GL := Aside0.mk GL0
    clear GL0
    go_upto_region 11 with (first | (go_at_call 29; (refine (want_ok _ _).mono ?_); rintro e w3 ⟨rfl, rfl⟩) | (go_at_call 43; (refine (C.out _ V2.out.k.b V2.out.r).mono ?_); rintro e w3 ⟨⟨rfl, hd, hm⟩, hk⟩; have V3 := Aside0.mk (V2.out.call hd hk); clear hd hk hcz hm))
    clear V2
    go_loopg [37] m (fun kq v37 w' => ∃ (i : Nat) (l : List S24) (ys : List Int) (vL : Value), v37 = .int .i64 i ∧ Aside0 (kq + i = m ∧ l.length = i) ∧ Aside0 (VS w0 w w' g gv #[.int .i64 3, .int .i64 0, .string ⟨#[]⟩, vL] ys) ∧ Aside0 (Kd.R k24 24 w' w0.heap.size (fun k_ => gv < k_) vL l) ∧ Aside0 (rdMany (rdVal n) m ys0 = match rdMany (rdVal n) (m - i) ys with | some (l2, r3) => some (l ++ l2, r3) | none => none) ∧ Aside0 (areBytes ys = true ∧ ys.length ≤ 1000000 ∧ True))
    case atStart => exact ⟨0, [], ys0, _, rfl, ⟨by simp⟩, V3, ⟨Kd.R_nil _ _ _ _ _⟩, ⟨by simp only [Nat.sub_zero, List.nil_append]; cases rdMany (rdVal n) m ys0 <;> rfl⟩, ⟨HY0.out.1, HY0.out.2, trivial⟩⟩
    case round =>
      clear V3
      obtain ⟨i, l, ys, vL, rfl, HI, VR, RL, HE, HY⟩ := hrel
      by_cases hi : i < m
      · have hi0 : decide ((i : Int) < (m : Int)) = true := decide_eq_true (by omega)
        have MK := Aside0.mk (show m - i = (m - (i + 1)) + 1 by omega)
        have WI := Aside0.mk (show wrap64 ((i : Int) + 1) = ((i + 1 : Nat) : Int) by have := HM.out; unfold wrap64; omega)
        have NE := Aside0.mk (show some gv ≠ vL.ownBlock from fun e_ => Nat.lt_irrefl gv (RL.out.1 gv e_.symm))
        go_wp2
        replace VR := Aside0.mk VR.out.drew
        replace RL := Aside0.mk (Kd.R_drew RL.out)
        have Z6 := Aside0.mk (blk_lt VR.out.b)
        refine start_ (n := 10) (S := fun w' => w'.cell? ⟨gv, 3, none⟩ = some vL) (ds := [9]) #[false, false, false, false, false, false, false, false, false, false] (by kernel_rfl) rfl rfl ((blk_cell VR.out.b 3).trans rfl) (fun hHeld => ?_)
        generalize wr.drew = w6 at *
        refine pure_ (i := 0) (N := some 39) (v := ?_) (a' := ?_) #[true, false, false, false, false, false, false, false, false, false] rfl rfl (by kernel_rfl) (fun _ _ _ h => h) (Or.inl ⟨by rfl, ?_⟩) ?_ ?_
        rotate_left
        · intro w'
          go_simp
          with_reducible rfl
        rotate_left
        · simp only [Act.put, List.setIfInBounds_toArray, List.set_cons_zero, List.set_cons_succ, i64_w, i32_w]
          rfl
        refine pure_ (i := 2) (N := some 41) (v := ?_) (a' := ?_) #[true, false, true, false, false, false, false, false, false, false] rfl rfl (by kernel_rfl) (fun _ _ _ h => h) (Or.inl ⟨by rfl, ?_⟩) ?_ ?_
        rotate_left
        · intro w'
          go_simp
          with_reducible rfl
        rotate_left
        · simp only [Act.put, List.setIfInBounds_toArray, List.set_cons_zero, List.set_cons_succ, i64_w, i32_w]
          rfl
        refine pure_ (i := 3) (N := some 42) (v := ?_) (a' := ?_) #[true, false, true, true, false, false, false, false, false, false] rfl rfl (by kernel_rfl) (fun _ _ _ h => h) (Or.inl ⟨by rfl, ?_⟩) ?_ ?_
        rotate_left
        · intro w'
          go_simp
          with_reducible rfl
        rotate_left
        · simp only [Act.put, List.setIfInBounds_toArray, List.set_cons_zero, List.set_cons_succ, i64_w, i32_w]
          rfl
        refine pure_ (i := 4) (N := some 43) (v := ?_) (a' := ?_) #[true, false, true, true, true, false, false, false, false, false] rfl rfl (by kernel_rfl) (fun _ _ _ h => h) (Or.inl ⟨by rfl, ?_⟩) ?_ ?_
        rotate_left
        · intro w'
          go_simp
          with_reducible rfl
        rotate_left
        · simp only [Act.put, List.setIfInBounds_toArray, List.set_cons_zero, List.set_cons_succ, i64_w, i32_w]
          rfl
        refine take_ (i := 1) (N := some 40) (v := ?_) (a' := ?_) #[true, true, true, true, true, false, false, false, false, false] rfl rfl (by kernel_rfl) (fun _ _ _ h => h) (Or.inl ⟨by rfl, ?_⟩) hHeld ?_ ?_
        rotate_left
        · rintro w' s0
          go_simp
          with_reducible rfl
        rotate_left
        · simp only [Act.put, List.setIfInBounds_toArray, List.set_cons_zero, List.set_cons_succ, i64_w, i32_w]
          rfl
        refine one_ (i := 5) (N := some 44) #[true, true, true, true, true, true, false, false, false, false] rfl rfl (by kernel_rfl) (by decide) (fun K hK => ?_)
        refine goesP_ Try.func28 (by kernel_rfl) rfl #[.pointer (some ⟨g, 0, none⟩), .int .i64 (wrap64 (d + 1))] (by rfl) rfl rfl (by (try simp only [List.map_toArray, List.map_cons, List.map_nil]); first | done | rfl) ?_
        rw [W1.out]
        refine (IH.out (d + 1) w0 _ g ys D2.out D1.out VR.out.k.b HG.out VR.out.r HY.out.1 HY.out.2.1).mono ?_
        rintro e w7 ⟨he, hk⟩
        cases hv : rdVal n ys with
        | none =>
          rw [hv] at he
          obtain rfl : e = .panicked codeErr := he
          exact .inr ⟨_, rfl, rfl, by rw [← HRES.out]; simp only [HE.out, MK.out, rdMany, hv]; exact rfl, VR.out.k.trans hk⟩
        | some p =>
        obtain ⟨x, zs⟩ := p
        rw [hv] at he
        obtain ⟨⟨v3, rfl, R3⟩, hr⟩ := he
        refine .inl ⟨_, rfl, ?_⟩
        have V7 := Aside0.mk (VR.out.call hr hk)
        have L7 := Aside0.mk (Kd.R_keep RL.out hk.k (fun k hk_ => by have h1 := GL.out; have h2 := HV.out; omega))
        have OWN := Aside0.mk (Kd.R_lt RL.out)
        have HV7 := Aside0.mk hv
        have R7 := Aside0.mk R3
        have S7 := Aside0.mk hk.k.1
        clear hv hr hk R3 RL VR
        refine hK.out _ _ ((blk_cell V7.out.b 3).trans rfl) (fun hHeld => ?_)
        clear hK K
        refine norm_ (a' := ?_) ?_ ?_
        rotate_left
        · show Act.put _ (some 44) _ = _
          simp only [Act.put, List.setIfInBounds_toArray, List.set_cons_zero, List.set_cons_succ, i64_w, i32_w]
          rfl
        refine one_ (i := 6) (N := some 45) #[true, true, true, true, true, true, true, false, false, false] rfl rfl (by kernel_rfl) (by decide) (fun K hK => ?_)
        refine value_ (w1 := ?_) (v := ?_) (by rfl) rfl ?_ ?_
        rotate_left 2
        · go_simp
          constructor
          · rfl
          · rfl
        refine hK.out _ _ ((blk_cell (V7.out.alloc (V7.out.k.b.size) (.cells #[.int .i64 x.f0, .int .i64 x.f1, .string x.f2, v3] 24)).b 3).trans rfl) (fun hHeld => ?_)
        clear hK K
        refine norm_ (a' := ?_) ?_ ?_
        rotate_left
        · show Act.put _ (some 45) _ = _
          simp only [Act.put, List.setIfInBounds_toArray, List.set_cons_zero, List.set_cons_succ, i64_w, i32_w]
          rfl
        refine one_ (i := 7) (N := some 46) #[true, true, true, true, true, true, true, true, false, false] rfl rfl (by kernel_rfl) (by decide) (fun K hK => ?_)
        refine Kd.R_append_step k24 (w0 := w0) w0.heap.size (by rfl) (.tmp 40) (.tmp 45) 22 24 (.agg #[.int .i64 0, .int .i64 0, .string ⟨#[]⟩, .slice none 0 0]) 56 rfl Try.underlying22 info24 rfl (by decide) (by omega) vL l x [.int .i64 x.f0, .int .i64 x.f1, .string x.f2, v3] (fun k_ => gv < k_) (fun k_ => w6.heap.size ≤ k_) rfl rfl (k24_mkM _ _ _ x R7.out) (fun k_ hk_ => ⟨Nat.lt_of_lt_of_le Z6.out hk_, fun e_ => by have := OWN.out k_ e_.symm; omega⟩) (fun k_ hk_ => Nat.lt_of_lt_of_le (blk_lt V7.out.b) hk_) L7.out V7.out.k.b V7.out.k.b.size (by have := HY.out; have := HI.out; have := HM.out; omega) ?_
        intro v8 w8 ho hb hgr hat
        have V8 := Aside0.mk (V7.out.grown hgr V7.out.k.b.size (by rw [HV.out]; exact GL.out) (fun k hk_ => by rw [HV.out]; exact Nat.le_of_lt (L7.out.1 k hk_)) (by rw [HV.out]; exact GV.out) NE.out)
        have L8 := Aside0.mk ho
        clear ho hb hgr hat V7 L7
        refine hK.out _ _ ((blk_cell V8.out.b 3).trans rfl) (fun hHeld => ?_)
        clear hK K
        refine norm_ (a' := ?_) ?_ ?_
        rotate_left
        · show Act.put _ (some 46) _ = _
          simp only [Act.put, List.setIfInBounds_toArray, List.set_cons_zero, List.set_cons_succ, i64_w, i32_w]
          rfl
        refine pure_ (i := 8) (N := some 47) (v := ?_) (a' := ?_) #[true, true, true, true, true, true, true, true, true, false] rfl rfl (by kernel_rfl) (fun _ _ _ h => h) (Or.inl ⟨by rfl, ?_⟩) ?_ ?_
        rotate_left
        · intro w'
          go_simp
          with_reducible rfl
        rotate_left
        · simp only [Act.put, List.setIfInBounds_toArray, List.set_cons_zero, List.set_cons_succ, i64_w, i32_w]
          rfl
        refine last_ (i := 9) (N := none) #[true, true, true, true, true, true, true, true, true, true] rfl rfl (by kernel_rfl) (by decide) (fun K hK => ?_)
        obtain ⟨A8, c8, rfl⟩ := Kd.R_slice L8.out
        have hcz8 := (blk_cell V8.out.b 3).trans rfl
        have hcf8 := blk_frozen V8.out.b 3
        refine skip_ (w1 := ?_) (by rfl) rfl ?_ ?_
        rotate_left
        · go_simp
          rfl
        refine hK.out _ _ ?_
        clear hK K
        refine done_ (by kernel_rfl) ?_
        have hlen : (l ++ [x]).length = l.length + 1 := by simp
        have V9 := Aside0.mk (V8.out.set (Nat.le_of_eq HV.out) GV.out 3 (.slice A8 (l.length + 1) c8))
        have L9 := Aside0.mk (show Kd.R k24 24 (w8.setCell ⟨gv, 3, none⟩ (.slice A8 (l.length + 1) c8)) w0.heap.size (fun k_ => gv < k_) (.slice A8 (l.length + 1) c8) (l ++ [x]) from by have h_ := Kd.R_far (p := ⟨gv, 3, none⟩) L8.out (fun k_ hk_ => Nat.ne_of_gt hk_) (.slice A8 (l.length + 1) c8); rwa [hlen] at h_)
        clear V8 L8
        simp only [hlen]
        generalize w8.setCell ⟨gv, 3, none⟩ (.slice A8 (l.length + 1) c8) = w9 at *
        go_wp2
        go_roundg (m - (i + 1))
        case measure => have := HI.out; omega
        case rel =>
          refine ⟨i + 1, l ++ [x], zs, _, by rw [WI.out], ⟨by omega, by have := HI.out.2; simp; omega⟩, V9, L9, ⟨?_⟩, ⟨bytes_suf HY.out.1 (rdVal_suf _ _ _ _ HV7.out), Nat.le_trans (rdVal_len _ _ _ _ HV7.out) HY.out.2.1, trivial⟩⟩
          rw [HE.out, MK.out, rdMany, HV7.out]
          simp only
          cases rdMany (rdVal n) (m - (i + 1)) zs with
          | none => rfl
          | some q => simp
      · have hi0 : decide ((i : Int) < (m : Int)) = false := decide_eq_false (by omega)
        have HE2 := Aside0.mk (show rdMany (rdVal n) m ys0 = some (l, ys) by
          have := HE.out
          rw [show m - i = 0 by omega, rdMany] at this
          simpa using this)
        clear HE HI HY
        obtain ⟨AL, cL, rfl⟩ := Kd.R_slice RL.out
        have hu24 := Try.underlying24
        have fz0 := blk_frozen VR.out.b 0
        have cz0 := (blk_cell VR.out.b 0).trans rfl
        have fz1 := blk_frozen VR.out.b 1
        have cz1 := (blk_cell VR.out.b 1).trans rfl
        have fz2 := blk_frozen VR.out.b 2
        have cz2 := (blk_cell VR.out.b 2).trans rfl
        have fz3 := blk_frozen VR.out.b 3
        have cz3 := (blk_cell VR.out.b 3).trans rfl
        go_wp2
        have E := (((VR.out.set (Nat.le_of_eq HV.out) GV.out 0 (.int .i64 3)).set (Nat.le_of_eq HV.out) GV.out 1 (.int .i64 (0))).set (Nat.le_of_eq HV.out) GV.out 2 (.string (⟨#[]⟩))).set (Nat.le_of_eq HV.out) GV.out 3 (.slice AL l.length cL)
        refine bodyPost_ret (results_cell_row rfl _ _ gv 24 #[.int .i64 3, .int .i64 (0), .string (⟨#[]⟩), .slice AL l.length cL] (0, 0) _ rfl E.b hu24 rfl info24') rfl ?_
        rw [← HRES.out]; simp only [HE2.out]
        exact ⟨⟨⟨_, rfl, Kd.R_mono (Kd.R_far (p := ⟨gv, 3, none⟩) (Kd.R_far (p := ⟨gv, 2, none⟩) (Kd.R_far (p := ⟨gv, 1, none⟩) (Kd.R_far (p := ⟨gv, 0, none⟩) RL.out (fun k_ hk_ => Nat.ne_of_gt hk_) _) (fun k_ hk_ => Nat.ne_of_gt hk_) _) (fun k_ hk_ => Nat.ne_of_gt hk_) _) (fun k_ hk_ => Nat.ne_of_gt hk_) _) (fun k hk_ => by rw [HV.out]; exact Nat.le_of_lt hk_)⟩, E.r⟩, E.k⟩
theorem value_says (n : Nat) : ValSays n := by
  induction n with
  | zero =>
    intro d w0 w g xs hd0 hd hB hg hR hx hl
    cases xs with
    | nil => exact value_nil d hB hR
    | cons k r =>
      have hk := bytes_head hx
      have hr := bytes_tail hx
      by_cases h1 : k = 1
      · subst h1
        rw [show rdVal 0 (1 :: r) = _ from by rw [rdVal, if_pos rfl]]
        exact value_one d hB hg hR hr
      by_cases h2 : k = 2
      · subst h2
        rw [show rdVal 0 (2 :: r) = _ from by rw [rdVal, if_neg (by decide), if_pos rfl]]
        exact value_two d hB hg hR hr
      by_cases h3 : k = 3
      · subst h3
        obtain rfl : d = 16 := by omega
        rw [show rdVal 0 (3 :: r) = none from by rw [rdVal, if_neg (by decide), if_neg (by decide), if_pos rfl]]
        exact value_deep hB hg hR
      · rw [show rdVal 0 (k :: r) = none from by rw [rdVal, if_neg h1, if_neg h2, if_neg h3]]
        exact value_other d k hB hg hR h1 h2 h3 hk.1 hk.2
  | succ n ih =>
    intro d w0 w g xs hd0 hd hB hg hR hx hl
    cases xs with
    | nil => exact value_nil d hB hR
    | cons k r =>
      have hk := bytes_head hx
      have hr := bytes_tail hx
      by_cases h1 : k = 1
      · subst h1
        rw [show rdVal (n + 1) (1 :: r) = _ from by rw [rdVal, if_pos rfl]]
        exact value_one d hB hg hR hr
      by_cases h2 : k = 2
      · subst h2
        rw [show rdVal (n + 1) (2 :: r) = _ from by rw [rdVal, if_neg (by decide), if_pos rfl]]
        exact value_two d hB hg hR hr
      by_cases h3 : k = 3
      · subst h3
        rw [show rdVal (n + 1) (3 :: r) = _ from by rw [rdVal, if_neg (by decide), if_neg (by decide), if_pos rfl]]
        exact value_three ih d hd0 hd hB hg hR hr (by simp at hl; omega) _ rfl
      · rw [show rdVal (n + 1) (k :: r) = none from by rw [rdVal, if_neg h1, if_neg h2, if_neg h3]]
        exact value_other d k hB hg hR h1 h2 h3 hk.1 hk.2
end Go.Proofs.Ytgnkjhppfenmaaa.Q
