/- The reader of codec: value. -/
import Derived.Test.YtgnkjhppfenmaaaEcodecLength
import Derived.Test.YtgnkjhppfenmaaaEcodecEncode
namespace Go.Proofs.Ytgnkjhppfenmaaa.Q
open Go.RowKit Go.Proofs.YtgnkjhppfenmaaaW.PrintWords Go.Proofs.YtgnkjhppfenmaaaW.PrintLast Go.Proofs.YtgnkjhppfenmaaaW.PrintMore
/-- how the reading of a value ends: what it leads to lies in new memory -/
def ValEnds (w0 w w' : World) (g : Nat) (r : Option (S24 × List Int)) (e : Ending) : Prop := match r with
  | some (x, ys) => (∃ v3 : Value, e = .returned (.agg #[.int .i64 x.f0, .int .i64 x.f1, .string x.f2, v3]) ∧ Kd.R k24 24 w' w0.heap.size (fun k_ => w.heap.size ≤ k_) v3 x.f3) ∧ RD w0 w' g ys
  | none => e = .panicked codeErr
/-- the reader, what stays, and the value under way -/
structure VS (w0 w W : World) (g gv : Nat) (cs : Array Value) (xs : List Int) : Prop where
  r : RD w0 W g xs
  k : RK w0 w W g
  b : W.heap[gv]? = some (.cells cs 24 (0, 0))
theorem RD.ne {w0 W : World} {g gv : Nat} {xs : List Int} {cs : Array Value} (h : RD w0 W g xs) (hb : W.heap[gv]? = some (.cells cs 24 (0, 0))) : g ≠ gv := by
  obtain ⟨A, c, h1, _⟩ := h
  exact blk_ne h1 hb (by decide)
theorem RD.blk {w0 W W1 : World} {g : Nat} {xs : List Int} (h : RD w0 W g xs) (hb : ∀ o, W.heap[g]? = some o → W1.heap[g]? = some o) : RD w0 W1 g xs := by
  obtain ⟨A, c, h1, h2⟩ := h
  exact ⟨A, c, hb _ h1, h2⟩
theorem keepbut_set {w W : World} {g gv : Nat} (h : KeepBut w W g none) (hv : w.heap.size ≤ gv) (j : Nat) (u : Value) : KeepBut w (W.setCell ⟨gv, j, none⟩ u) g none :=
  ⟨by simpa using h.1, fun i hi hg hr => (Below.heap_setCell W _ u i (by intro e; simp at e; omega)).trans (h.2 i hi hg hr)⟩
theorem VS.set {w0 w W : World} {g gv : Nat} {cs : Array Value} {xs : List Int} (h : VS w0 w W g gv cs xs) (hv : w.heap.size ≤ gv) (h0 : w0.heap.size ≤ gv) (j : Nat) (u : Value) : VS w0 w (W.setCell ⟨gv, j, none⟩ u) g gv (cs.setIfInBounds j u) xs :=
  ⟨h.r.blk fun o ho => (Below.heap_setCell W ⟨gv, j, none⟩ u g (h.r.ne h.b)).trans ho, ⟨h.k.b.setCell h0 u, keepbut_set h.k.k hv j u⟩, blk_set h.b j u⟩
theorem VS.call {w0 w W W1 : World} {g gv : Nat} {cs : Array Value} {xs ys : List Int} (h : VS w0 w W g gv cs xs) (hr : RD w0 W1 g ys) (hk : RK w0 W W1 g) : VS w0 w W1 g gv cs ys :=
  ⟨hr, h.k.trans hk, hk.k.blk h.b (fun e => h.r.ne h.b e.symm) (by simp)⟩
theorem VS.new {w0 w : World} {g : Nat} {xs : List Int} (hB : Below w0.heap.size w0 w) (h : RD w0 w g xs) (cs : Array Value) : VS w0 w (w.alloc (.cells cs 24)) g w.heap.size cs xs :=
  ⟨h.blk fun o ho => blk_alloc ho _, (RK.refl hB g).alloc _ hB.size, blk_new _ _⟩
theorem VS.drawn {w0 w W W1 : World} {g gv : Nat} {cs : Array Value} {xs : List Int} (h : VS w0 w W g gv cs xs) (hd : Drawn0 W W1) : VS w0 w W1 g gv cs xs := by
  obtain ⟨⟨n, rfl⟩⟩ := hd
  exact ⟨h.r.blk fun o ho => blk_drewN ho n, ⟨pw_below_drewN h.k.b n, keep_drewN h.k.k n⟩, blk_drewN h.b n⟩
theorem info24' : (Try.prog.info? 24).map (·.size) = some 4 := by kernel_rfl
set_option maxHeartbeats 8000000 in
set_option maxRecDepth 100000 in
theorem value_nil (d : Int) {w0 w : World} {g : Nat} (hB : Below w0.heap.size w0 w) (h : RD w0 w g []) :
    Calls Try.prog 28 #[.pointer (some ⟨g, 0, none⟩), .int .i64 d] w fun e w' => e = .panicked codeErr ∧ RK w0 w w' g := by
  have V := Aside0.mk (VS.new hB h #[.int .i64 0, .int .i64 0, .string ⟨#[]⟩, .slice none 0 0])
  go_enter Try.func28, Try.ntmps28
  go_wp2_with (go_at_call 40; (refine (take_none V.out.k.b V.out.r).mono ?_); rintro e w1 ⟨rfl, hk⟩)
  exact ⟨rfl, rfl, V.out.k.trans hk⟩
set_option maxHeartbeats 8000000 in
set_option maxRecDepth 100000 in
theorem value_other (d k : Int) {w0 w : World} {g : Nat} {xs : List Int} (hB : Below w0.heap.size w0 w) (hg : w0.heap.size ≤ g) (h : RD w0 w g (k :: xs)) (h1 : k ≠ 1) (h2 : k ≠ 2) (h3 : k ≠ 3) (hk0 : 0 ≤ k) (hk1 : k ≤ 255) :
    Calls Try.prog 28 #[.pointer (some ⟨g, 0, none⟩), .int .i64 d] w fun e w' => e = .panicked codeErr ∧ RK w0 w w' g := by
  have V := Aside0.mk (VS.new hB h #[.int .i64 0, .int .i64 0, .string ⟨#[]⟩, .slice none 0 0])
  have HG := Aside0.mk hg
  have GV := Aside0.mk hB.size
  have W64 : wrap64 k = k := by unfold wrap64; omega
  clear hB h hg hk0 hk1
  have e1 : (k == 1) = false := beq_eq_false_iff_ne.mpr h1
  have e2 : (k == 2) = false := beq_eq_false_iff_ne.mpr h2
  have e3 : (k == 3) = false := beq_eq_false_iff_ne.mpr h3
  clear h1 h2 h3
  go_enter Try.func28, Try.ntmps28
  go_upto_region 2 with (go_at_call 40; (refine (take_byte V.out.k.b HG.out V.out.r).mono ?_); rintro e w1 ⟨⟨ad, rfl, hz⟩, hd, hk⟩; have V1 := Aside0.mk (V.out.call hd hk); clear hd hk; have hcz := (blk_cell V1.out.b 0).trans rfl; have hcf := blk_frozen V1.out.b 0)
  have V2 := Aside0.mk (V1.out.set (Nat.le_refl _) GV.out 0 (.int .i64 k))
  clear V V1 hz hcz hcf
  generalize hgv : w.heap.size = gv at *
  have HV := Aside0.mk hgv
  clear hgv
  generalize w1.setCell ⟨gv, 0, none⟩ (.int .i64 k) = w2 at *
  have hcz := (blk_cell V2.out.b 0).trans rfl
  go_wp2_with (go_at_call 29; (refine (want_not _ _).mono ?_); rintro e w3 ⟨rfl, rfl⟩)
  exact ⟨rfl, rfl, V2.out.k⟩
set_option maxHeartbeats 8000000 in
set_option maxRecDepth 100000 in
theorem value_one (d : Int) {w0 w : World} {g : Nat} {xs : List Int} (hB : Below w0.heap.size w0 w) (hg : w0.heap.size ≤ g) (h : RD w0 w g (1 :: xs)) (hx : areBytes xs = true) :
    Calls Try.prog 28 #[.pointer (some ⟨g, 0, none⟩), .int .i64 d] w fun e w' => ValEnds w0 w w' g (match rdNum xs with | some (u, r2) => some (⟨1, sgnG u, ⟨#[]⟩, []⟩, r2) | none => none) e ∧ RK w0 w w' g := by
  have V := Aside0.mk (VS.new hB h #[.int .i64 0, .int .i64 0, .string ⟨#[]⟩, .slice none 0 0])
  have HG := Aside0.mk hg
  have GV := Aside0.mk hB.size
  have W64 : wrap64 1 = 1 := by unfold wrap64; omega
  have HX := Aside0.mk hx
  clear hB h hg hx
  have C := fun (w' : World) (hB : Below w0.heap.size w0 w') (h : RD w0 w' g xs) => number_ends hB HG.out h HX.out
  cases hn : rdNum xs with
  | none =>
    rw [hn] at C
    replace C := Aside0.mk C
    clear hn
    go_enter Try.func28, Try.ntmps28
    go_upto_region 2 with (go_at_call 40; (refine (take_byte V.out.k.b HG.out V.out.r).mono ?_); rintro e w1 ⟨⟨ad, rfl, hz⟩, hd, hk⟩; have V1 := Aside0.mk (V.out.call hd hk); clear hd hk; have hcz := (blk_cell V1.out.b 0).trans rfl; have hcf := blk_frozen V1.out.b 0)
    have V2 := Aside0.mk (V1.out.set (Nat.le_refl _) GV.out 0 (.int .i64 1))
    clear V V1 hz hcz hcf
    generalize hgv : w.heap.size = gv at *
    have HV := Aside0.mk hgv
    clear hgv
    generalize w1.setCell ⟨gv, 0, none⟩ (.int .i64 1) = w2 at *
    have hcz := (blk_cell V2.out.b 0).trans rfl
    go_wp2_with (go_at_call 42; (refine (C.out _ V2.out.k.b V2.out.r).mono ?_); rintro e w3 ⟨rfl, hk⟩)
    exact ⟨rfl, rfl, V2.out.k.trans hk⟩
  | some p =>
    obtain ⟨u, ys⟩ := p
    rw [hn] at C
    replace C := Aside0.mk C
    clear hn
    go_enter Try.func28, Try.ntmps28
    go_upto_region 2 with (go_at_call 40; (refine (take_byte V.out.k.b HG.out V.out.r).mono ?_); rintro e w1 ⟨⟨ad, rfl, hz⟩, hd, hk⟩; have V1 := Aside0.mk (V.out.call hd hk); clear hd hk; have hcz := (blk_cell V1.out.b 0).trans rfl; have hcf := blk_frozen V1.out.b 0)
    have V2 := Aside0.mk (V1.out.set (Nat.le_refl _) GV.out 0 (.int .i64 1))
    clear V V1 hz hcz hcf
    generalize hgv : w.heap.size = gv at *
    have HV := Aside0.mk hgv
    clear hgv
    generalize w1.setCell ⟨gv, 0, none⟩ (.int .i64 1) = w2 at *
    have hcz := (blk_cell V2.out.b 0).trans rfl
    go_upto_region 14 with (first | (go_at_call 42; (refine (C.out _ V2.out.k.b V2.out.r).mono ?_); rintro e w3 ⟨⟨rfl, hd⟩, hk⟩; have V3 := Aside0.mk (V2.out.call hd hk); clear hd hk hcz) | (go_at_call 41; (refine (codec_signed.calls u (sgnG u) _ rfl).mono ?_); rintro e w4 ⟨rfl, hd⟩; have V4 := Aside0.mk (V3.out.drawn hd); clear hd V3; have hcz1 := (blk_cell V4.out.b 1).trans rfl; have hcf1 := blk_frozen V4.out.b 1))
    have V5 := Aside0.mk (V4.out.set (Nat.le_of_eq HV.out) GV.out 1 (.int .i64 (sgnG u)))
    clear V4 V2
    generalize w4.setCell ⟨gv, 1, none⟩ (.int .i64 (sgnG u)) = w5 at *
    have hu24 := Try.underlying24
    have fz0 := blk_frozen V5.out.b 0
    have cz0 := (blk_cell V5.out.b 0).trans rfl
    have fz1 := blk_frozen V5.out.b 1
    have cz1 := (blk_cell V5.out.b 1).trans rfl
    have fz2 := blk_frozen V5.out.b 2
    have cz2 := (blk_cell V5.out.b 2).trans rfl
    have fz3 := blk_frozen V5.out.b 3
    have cz3 := (blk_cell V5.out.b 3).trans rfl
    go_wp2
    have E := (((V5.out.set (Nat.le_of_eq HV.out) GV.out 0 (.int .i64 1)).set (Nat.le_of_eq HV.out) GV.out 1 (.int .i64 (sgnG u))).set (Nat.le_of_eq HV.out) GV.out 2 (.string (⟨#[]⟩))).set (Nat.le_of_eq HV.out) GV.out 3 (.slice none 0 0)
    refine bodyPost_ret (results_cell_row rfl _ _ gv 24 #[.int .i64 1, .int .i64 (sgnG u), .string (⟨#[]⟩), .slice none 0 0] (0, 0) _ rfl E.b hu24 rfl info24') rfl ?_
    exact ⟨⟨⟨_, rfl, Kd.R_nil _ _ _ _ _⟩, E.r⟩, E.k⟩
set_option maxHeartbeats 8000000 in
set_option maxRecDepth 100000 in
theorem value_two (d : Int) {w0 w : World} {g : Nat} {xs : List Int} (hB : Below w0.heap.size w0 w) (hg : w0.heap.size ≤ g) (h : RD w0 w g (2 :: xs)) (hx : areBytes xs = true) :
    Calls Try.prog 28 #[.pointer (some ⟨g, 0, none⟩), .int .i64 d] w fun e w' => ValEnds w0 w w' g (match rdLen xs with | some (m, r2) => some (⟨2, 0, strOfNums (r2.take m), []⟩, r2.drop m) | none => none) e ∧ RK w0 w w' g := by
  have V := Aside0.mk (VS.new hB h #[.int .i64 0, .int .i64 0, .string ⟨#[]⟩, .slice none 0 0])
  have HG := Aside0.mk hg
  have GV := Aside0.mk hB.size
  have W64 : wrap64 2 = 2 := by unfold wrap64; omega
  have HX := Aside0.mk hx
  clear hB h hg hx
  have C := fun (w' : World) (hB : Below w0.heap.size w0 w') (h : RD w0 w' g xs) => length_ends hB HG.out h HX.out
  cases hn : rdLen xs with
  | none =>
    rw [hn] at C
    replace C := Aside0.mk C
    clear hn
    go_enter Try.func28, Try.ntmps28
    go_upto_region 2 with (go_at_call 40; (refine (take_byte V.out.k.b HG.out V.out.r).mono ?_); rintro e w1 ⟨⟨ad, rfl, hz⟩, hd, hk⟩; have V1 := Aside0.mk (V.out.call hd hk); clear hd hk; have hcz := (blk_cell V1.out.b 0).trans rfl; have hcf := blk_frozen V1.out.b 0)
    have V2 := Aside0.mk (V1.out.set (Nat.le_refl _) GV.out 0 (.int .i64 2))
    clear V V1 hz hcz hcf
    generalize hgv : w.heap.size = gv at *
    have HV := Aside0.mk hgv
    clear hgv
    generalize w1.setCell ⟨gv, 0, none⟩ (.int .i64 2) = w2 at *
    have hcz := (blk_cell V2.out.b 0).trans rfl
    go_wp2_with (go_at_call 43; (refine (C.out _ V2.out.k.b V2.out.r).mono ?_); rintro e w3 ⟨rfl, hk⟩)
    exact ⟨rfl, rfl, V2.out.k.trans hk⟩
  | some p =>
    obtain ⟨m, ys⟩ := p
    rw [hn] at C
    replace C := Aside0.mk C
    clear hn
    go_enter Try.func28, Try.ntmps28
    go_upto_region 2 with (go_at_call 40; (refine (take_byte V.out.k.b HG.out V.out.r).mono ?_); rintro e w1 ⟨⟨ad, rfl, hz⟩, hd, hk⟩; have V1 := Aside0.mk (V.out.call hd hk); clear hd hk; have hcz := (blk_cell V1.out.b 0).trans rfl; have hcf := blk_frozen V1.out.b 0)
    have V2 := Aside0.mk (V1.out.set (Nat.le_refl _) GV.out 0 (.int .i64 2))
    clear V V1 hz hcz hcf
    generalize hgv : w.heap.size = gv at *
    have HV := Aside0.mk hgv
    clear hgv
    generalize w1.setCell ⟨gv, 0, none⟩ (.int .i64 2) = w2 at *
    have hcz := (blk_cell V2.out.b 0).trans rfl
    go_upto_region 14 with (first | (go_at_call 43; (refine (C.out _ V2.out.k.b V2.out.r).mono ?_); rintro e w3 ⟨⟨rfl, hd, hm⟩, hk⟩; have V3 := Aside0.mk (V2.out.call hd hk); have HM := Aside0.mk hm; clear hd hk hcz hm) | (go_at_call 40; (refine (take_some m V3.out.k.b HG.out V3.out.r HM.out).mono ?_); rintro e w4 ⟨⟨A4, rfl, hC4⟩, hd, hk⟩; have V4 := Aside0.mk (V3.out.call hd hk); have hcv := Kd.C_string (P := Try.prog) (c := m) Try.underlying27 Try.underlying5 Try.underlying9 hC4; clear hd hk hC4 V3; have hcz2 := (blk_cell V4.out.b 2).trans rfl; have hcf2 := blk_frozen V4.out.b 2))
    have V5 := Aside0.mk (V4.out.set (Nat.le_of_eq HV.out) GV.out 2 (.string (strOfNums (ys.take m))))
    clear V4 V2 hcz2 hcf2 hcv
    generalize w4.setCell ⟨gv, 2, none⟩ (.string (strOfNums (ys.take m))) = w5 at *
    have hu24 := Try.underlying24
    have fz0 := blk_frozen V5.out.b 0
    have cz0 := (blk_cell V5.out.b 0).trans rfl
    have fz1 := blk_frozen V5.out.b 1
    have cz1 := (blk_cell V5.out.b 1).trans rfl
    have fz2 := blk_frozen V5.out.b 2
    have cz2 := (blk_cell V5.out.b 2).trans rfl
    have fz3 := blk_frozen V5.out.b 3
    have cz3 := (blk_cell V5.out.b 3).trans rfl
    go_wp2
    have E := (((V5.out.set (Nat.le_of_eq HV.out) GV.out 0 (.int .i64 2)).set (Nat.le_of_eq HV.out) GV.out 1 (.int .i64 (0))).set (Nat.le_of_eq HV.out) GV.out 2 (.string (strOfNums (ys.take m)))).set (Nat.le_of_eq HV.out) GV.out 3 (.slice none 0 0)
    refine bodyPost_ret (results_cell_row rfl _ _ gv 24 #[.int .i64 2, .int .i64 (0), .string (strOfNums (ys.take m)), .slice none 0 0] (0, 0) _ rfl E.b hu24 rfl info24') rfl ?_
    exact ⟨⟨⟨_, rfl, Kd.R_nil _ _ _ _ _⟩, E.r⟩, E.k⟩
end Go.Proofs.Ytgnkjhppfenmaaa.Q
