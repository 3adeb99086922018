/- The proof's texts, part 5 of 7. -/
import Derived.Test.YtgnkjhppfenmaaaKD3
set_option linter.unusedVariables false
set_option linter.unusedSimpArgs false
/- The reference's reader: values, but lists. -/
namespace Go.Proofs.Ytgnkjhppfenmaaa.Q
open Go.RowKit Go.Proofs.YtgnkjhppfenmaaaW.PrintWords Go.Proofs.YtgnkjhppfenmaaaW.PrintLast Go.Proofs.YtgnkjhppfenmaaaW.PrintMore
set_option linter.unusedVariables false
/-- the reader, what stays, and the value under way -/
structure US (w0 w W : World) (g gv : Nat) (cs : Array Value) (B : List Int) (p : Int) (bad : Bool) : Prop where
  r : IsS60 w0 W g B p bad
  b : Below w0.heap.size w0 W
  k : KeepBut w W g none
  v : W.heap[gv]? = some (.cells cs 24 (0, 0))
theorem IsS60.blk {w0 W W1 : World} {g : Nat} {B : List Int} {p : Int} {bad : Bool} (h : IsS60 w0 W g B p bad) (hb : ∀ o, W.heap[g]? = some o → W1.heap[g]? = some o) : IsS60 w0 W1 g B p bad := by
  obtain ⟨A, c, h1, h2⟩ := h
  exact ⟨A, c, hb _ h1, h2⟩
theorem IsS60.ne24 {w0 W : World} {g gv : Nat} {B : List Int} {p : Int} {bad : Bool} {cs : Array Value} (h : IsS60 w0 W g B p bad) (hb : W.heap[gv]? = some (.cells cs 24 (0, 0))) : g ≠ gv := by
  obtain ⟨A, c, h1, _⟩ := h
  exact blk_ne h1 hb (by decide)
theorem IsS60.base {w0 W : World} {g : Nat} {B : List Int} {p : Int} {bad : Bool} (h : IsS60 w0 W g B p bad) : w0.heap.size ≤ g := by
  obtain ⟨A, c, _, h2, _⟩ := h
  exact h2
variable {w0 w W W1 : World} {g gv : Nat} {cs : Array Value} {B : List Int} {p p' : Int} {bad bad' : Bool}
theorem US.set (h : US w0 w W g gv cs B p bad) (hv : w.heap.size ≤ gv) (h0 : w0.heap.size ≤ gv) (j : Nat) (u : Value) : US w0 w (W.setCell ⟨gv, j, none⟩ u) g gv (cs.setIfInBounds j u) B p bad :=
  ⟨h.r.blk fun o ho => (Below.heap_setCell W ⟨gv, j, none⟩ u g (h.r.ne24 h.v)).trans ho, h.b.setCell h0 u, keepbut_set h.k hv j u, blk_set h.v j u⟩
theorem US.call (h : US w0 w W g gv cs B p bad) (hr : IsS60 w0 W1 g B p' bad') (hb : Below w0.heap.size w0 W1) (hk : KeepBut W W1 g none) : US w0 w W1 g gv cs B p' bad' :=
  ⟨hr, hb, h.k.trans hk (.inl rfl), hk.blk h.v (fun e => h.r.ne24 h.v e.symm) (by simp)⟩
theorem US.new (hB : Below w0.heap.size w0 w) (h : IsS60 w0 w g B p bad) (cs : Array Value) : US w0 w (w.alloc (.cells cs 24)) g w.heap.size cs B p bad :=
  ⟨h.blk fun o ho => blk_alloc ho _, hB.alloc hB.size _, keep_alloc (KeepBut.refl w g none) _, blk_new _ _⟩
theorem US.bad_ (h : US w0 w W g gv cs B p bad) (b : Bool) : US w0 w (W.setCell ⟨g, 2, none⟩ (.bool b)) g gv cs B p b := by
  obtain ⟨⟨A, c, h1, h2, h3⟩, hb, hk, hv⟩ := h
  exact ⟨⟨A, c, by simpa using blk_set h1 2 (.bool b), h2, h3⟩, hb.setCell h2 _, hk.set_ 2 _, blk_far hv (by intro e; exact blk_ne h1 hv (by decide) e.symm) _⟩
theorem US.at_ (h : US w0 w W g gv cs B p bad) (n : Int) : US w0 w (W.setCell ⟨g, 1, none⟩ (.int .i64 n)) g gv cs B n bad := by
  obtain ⟨⟨A, c, h1, h2, h3⟩, hb, hk, hv⟩ := h
  exact ⟨⟨A, c, by simpa using blk_set h1 1 (.int .i64 n), h2, h3⟩, hb.setCell h2 _, hk.set_ 1 _, blk_far hv (by intro e; exact blk_ne h1 hv (by decide) e.symm) _⟩
/-- how the reading of a value ends -/
def UEnds (w0 w w' : World) (g : Nat) (B : List Int) (r : Option (S24 × List Int)) (e : Ending) : Prop := match r with
  | some (x, ys) => (∃ v3 : Value, e = .returned (.agg #[.int .i64 x.f0, .int .i64 x.f1, .string x.f2, v3]) ∧ Kd.R k24 24 w' w0.heap.size (fun k_ => w.heap.size ≤ k_) v3 x.f3) ∧ IsS60 w0 w' g B (atOf B ys) false
  | none => (∃ (x : S24) (v3 : Value), e = .returned (.agg #[.int .i64 x.f0, .int .i64 x.f1, .string x.f2, v3]) ∧ Kd.R k24 24 w' w0.heap.size (fun k_ => w.heap.size ≤ k_) v3 x.f3) ∧ ∃ p, IsS60 w0 w' g B p true
set_option maxHeartbeats 8000000 in
set_option maxRecDepth 100000 in
theorem uval_end (d : Int) (hB : Below w0.heap.size w0 w) (h : IsS60 w0 w g B (atOf B []) false) :
    Calls Try.prog 30 #[.pointer (some ⟨g, 0, none⟩), .int .i64 d] w fun e w' => UEnds w0 w w' g B none e ∧ Below w0.heap.size w0 w' ∧ KeepBut w w' g none := by
  have V := Aside0.mk (US.new hB h #[.int .i64 0, .int .i64 0, .string ⟨#[]⟩, .slice none 0 0])
  have HG := Aside0.mk h.base
  have GL := Aside0.mk h.lt
  have GV := Aside0.mk hB.size
  have hn := next_end B (atOf B []) false (by unfold atOf; simp)
  clear hB h
  go_enter Try.func30, Try.ntmps30
  go_wp2_with (go_at_call 44; (refine (sizarref01_Reader_next.calls g B (atOf B []) false 0 (atOf B []) true w0 _ V.out.r V.out.b hn).mono ?_); rintro e w1 ⟨rfl, hr, hb, hk⟩; have V1 := Aside0.mk (V.out.call hr hb hk); clear hr hb hk; have hu24 := Try.underlying24; obtain ⟨Ag, cg, hbg, -, -, -⟩ := V1.out.r; have gz0 := (blk_cell hbg 0).trans rfl; have gz1 := (blk_cell hbg 1).trans rfl; have gz2 := (blk_cell hbg 2).trans rfl; have gf1 := blk_frozen hbg 1; have gf2 := blk_frozen hbg 2; have vz0 := (blk_cell V1.out.v 0).trans rfl; have vf0 := blk_frozen V1.out.v 0; have vz1 := (blk_cell V1.out.v 1).trans rfl; have vf1 := blk_frozen V1.out.v 1; have vz2 := (blk_cell V1.out.v 2).trans rfl; have vf2 := blk_frozen V1.out.v 2; have vz3 := (blk_cell V1.out.v 3).trans rfl; have vf3 := blk_frozen V1.out.v 3; have hne := V1.out.r.ne24 V1.out.v; have hne2 := hne.symm; clear hbg)
  have E := ((((V1.out.bad_ true).set (Nat.le_refl _) GV.out 0 (.int .i64 0)).set (Nat.le_refl _) GV.out 1 (.int .i64 0)).set (Nat.le_refl _) GV.out 2 (.string ⟨#[]⟩)).set (Nat.le_refl _) GV.out 3 (.slice none 0 0)
  refine bodyPost_ret (results_cell_row rfl _ _ w.heap.size 24 #[.int .i64 0, .int .i64 0, .string ⟨#[]⟩, .slice none 0 0] (0, 0) _ rfl E.v hu24 rfl info24') rfl ?_
  exact ⟨⟨⟨⟨0, 0, ⟨#[]⟩, []⟩, _, rfl, Kd.R_nil _ _ _ _ _⟩, _, E.r⟩, E.b, E.k⟩
set_option maxHeartbeats 8000000 in
set_option maxRecDepth 100000 in
theorem uval_other (d k : Int) {xs : List Int} (hB : Below w0.heap.size w0 w) (h : IsS60 w0 w g B (atOf B (k :: xs)) false) (hs : k :: xs <:+ B) (hl : B.length ≤ 1000000) (h1 : k ≠ 1) (h2 : k ≠ 2) (h3 : k ≠ 3) :
    Calls Try.prog 30 #[.pointer (some ⟨g, 0, none⟩), .int .i64 d] w fun e w' => UEnds w0 w w' g B none e ∧ Below w0.heap.size w0 w' ∧ KeepBut w w' g none := by
  have V := Aside0.mk (US.new hB h #[.int .i64 0, .int .i64 0, .string ⟨#[]⟩, .slice none 0 0])
  have HG := Aside0.mk h.base
  have GL := Aside0.mk h.lt
  have GV := Aside0.mk hB.size
  have hn := next_some B k xs false hs hl
  have e1 : (k == 1) = false := beq_eq_false_iff_ne.mpr h1
  have e2 : (k == 2) = false := beq_eq_false_iff_ne.mpr h2
  have e3 : (k == 3) = false := beq_eq_false_iff_ne.mpr h3
  clear hB h h1 h2 h3 hs
  go_enter Try.func30, Try.ntmps30
  go_wp2_with (go_at_call 44; (refine (sizarref01_Reader_next.calls g B (atOf B (k :: xs)) false k (atOf B xs) false w0 _ V.out.r V.out.b hn).mono ?_); rintro e w1 ⟨rfl, hr, hb, hk⟩; have V1 := Aside0.mk (V.out.call hr hb hk); clear hr hb hk; have hu24 := Try.underlying24; obtain ⟨Ag, cg, hbg, -, -, -⟩ := V1.out.r; have gz0 := (blk_cell hbg 0).trans rfl; have gz1 := (blk_cell hbg 1).trans rfl; have gz2 := (blk_cell hbg 2).trans rfl; have gf1 := blk_frozen hbg 1; have gf2 := blk_frozen hbg 2; have vz0 := (blk_cell V1.out.v 0).trans rfl; have vf0 := blk_frozen V1.out.v 0; have vz1 := (blk_cell V1.out.v 1).trans rfl; have vf1 := blk_frozen V1.out.v 1; have vz2 := (blk_cell V1.out.v 2).trans rfl; have vf2 := blk_frozen V1.out.v 2; have vz3 := (blk_cell V1.out.v 3).trans rfl; have vf3 := blk_frozen V1.out.v 3; have hne := V1.out.r.ne24 V1.out.v; have hne2 := hne.symm; clear hbg)
  have E := ((((V1.out.bad_ true).set (Nat.le_refl _) GV.out 0 (.int .i64 0)).set (Nat.le_refl _) GV.out 1 (.int .i64 0)).set (Nat.le_refl _) GV.out 2 (.string ⟨#[]⟩)).set (Nat.le_refl _) GV.out 3 (.slice none 0 0)
  refine bodyPost_ret (results_cell_row rfl _ _ w.heap.size 24 #[.int .i64 0, .int .i64 0, .string ⟨#[]⟩, .slice none 0 0] (0, 0) _ rfl E.v hu24 rfl info24') rfl ?_
  exact ⟨⟨⟨⟨0, 0, ⟨#[]⟩, []⟩, _, rfl, Kd.R_nil _ _ _ _ _⟩, _, E.r⟩, E.b, E.k⟩
end Go.Proofs.Ytgnkjhppfenmaaa.Q
/- The reference's reader: whole numbers. -/
namespace Go.Proofs.Ytgnkjhppfenmaaa.Q
open Go.RowKit Go.Proofs.YtgnkjhppfenmaaaW.PrintWords Go.Proofs.YtgnkjhppfenmaaaW.PrintLast Go.Proofs.YtgnkjhppfenmaaaW.PrintMore
set_option linter.unusedVariables false
set_option linter.unusedSimpArgs false
variable {w0 w W W1 : World} {g gv : Nat} {cs : Array Value} {B : List Int} {p p' : Int} {bad bad' : Bool}
set_option maxHeartbeats 8000000 in
set_option maxRecDepth 100000 in
theorem uval_one (d : Int) {xs : List Int} (hB : Below w0.heap.size w0 w) (h : IsS60 w0 w g B (atOf B (1 :: xs)) false) (hs : 1 :: xs <:+ B) (hl : B.length ≤ 1000000) (hy : areBytes B = true) :
    Calls Try.prog 30 #[.pointer (some ⟨g, 0, none⟩), .int .i64 d] w fun e w' => UEnds w0 w w' g B (match rdNum xs with | some (u, r2) => some (⟨1, sgnG u, ⟨#[]⟩, []⟩, r2) | none => none) e ∧ Below w0.heap.size w0 w' ∧ KeepBut w w' g none := by
  have V := Aside0.mk (US.new hB h #[.int .i64 0, .int .i64 0, .string ⟨#[]⟩, .slice none 0 0])
  have HG := Aside0.mk h.base
  have GL := Aside0.mk h.lt
  have GV := Aside0.mk hB.size
  have hn := next_some B 1 xs false hs hl
  have HN := refNum B hl hy xs ((List.suffix_cons 1 xs).trans hs)
  clear hB h
  cases hv : rdNum xs with
  | none =>
    rw [hv] at HN
    obtain ⟨r1, r2, k0, hk0⟩ := HN
    have hk1 := hk0 k0 (Nat.le_refl _)
    clear hk0 hv hs
    simp only at hk1
    go_enter Try.func30, Try.ntmps30
    go_wp2_with (first | (go_at_call 44; (refine (sizarref01_Reader_next.calls g B (atOf B (1 :: xs)) false 1 (atOf B xs) false w0 _ V.out.r V.out.b hn).mono ?_); rintro e w1 ⟨rfl, hr, hb, hk⟩; have V1 := Aside0.mk (V.out.call hr hb hk); clear hr hb hk) | (go_at_call 45; (refine (sizarref01_Reader_number.calls k0 g B (atOf B xs) false r1 r2 true w0 _ V1.out.r V1.out.b hk1).mono ?_); rintro e w2 ⟨rfl, hr, hb, hk⟩; have V2 := Aside0.mk (V1.out.call hr hb hk); clear hr hb hk; have hu24 := Try.underlying24; obtain ⟨Ag, cg, hbg, -, -, -⟩ := V2.out.r; have gz0 := (blk_cell hbg 0).trans rfl; have gz1 := (blk_cell hbg 1).trans rfl; have gz2 := (blk_cell hbg 2).trans rfl; have gf1 := blk_frozen hbg 1; have gf2 := blk_frozen hbg 2; have vz0 := (blk_cell V2.out.v 0).trans rfl; have vf0 := blk_frozen V2.out.v 0; have vz1 := (blk_cell V2.out.v 1).trans rfl; have vf1 := blk_frozen V2.out.v 1; have vz2 := (blk_cell V2.out.v 2).trans rfl; have vf2 := blk_frozen V2.out.v 2; have vz3 := (blk_cell V2.out.v 3).trans rfl; have vf3 := blk_frozen V2.out.v 3; have hne := V2.out.r.ne24 V2.out.v; have hne2 := hne.symm; clear hbg))
    · skip
      have E := ((((V2.out.set (Nat.le_refl _) GV.out 0 (.int .i64 1)).set (Nat.le_refl _) GV.out 1 (.int .i64 (wrap64 (wrap64 (-wrap64 (IntKind.u64.wrap (r1.tdiv 2))) - 1)))).set (Nat.le_refl _) GV.out 2 (.string ⟨#[]⟩)).set (Nat.le_refl _) GV.out 3 (.slice none 0 0))
      refine bodyPost_ret (results_cell_row rfl _ _ w.heap.size 24 #[.int .i64 1, .int .i64 (wrap64 (wrap64 (-wrap64 (IntKind.u64.wrap (r1.tdiv 2))) - 1)), .string ⟨#[]⟩, .slice none 0 0] (0, 0) _ rfl E.v hu24 rfl info24') rfl ?_
      exact ⟨⟨⟨⟨1, wrap64 (wrap64 (-wrap64 (IntKind.u64.wrap (r1.tdiv 2))) - 1), ⟨#[]⟩, []⟩, _, rfl, Kd.R_nil _ _ _ _ _⟩, _, E.r⟩, E.b, E.k⟩
    · skip
      have E := ((((V2.out.set (Nat.le_refl _) GV.out 0 (.int .i64 1)).set (Nat.le_refl _) GV.out 1 (.int .i64 (wrap64 (IntKind.u64.wrap (r1.tdiv 2))))).set (Nat.le_refl _) GV.out 2 (.string ⟨#[]⟩)).set (Nat.le_refl _) GV.out 3 (.slice none 0 0))
      refine bodyPost_ret (results_cell_row rfl _ _ w.heap.size 24 #[.int .i64 1, .int .i64 (wrap64 (IntKind.u64.wrap (r1.tdiv 2))), .string ⟨#[]⟩, .slice none 0 0] (0, 0) _ rfl E.v hu24 rfl info24') rfl ?_
      exact ⟨⟨⟨⟨1, wrap64 (IntKind.u64.wrap (r1.tdiv 2)), ⟨#[]⟩, []⟩, _, rfl, Kd.R_nil _ _ _ _ _⟩, _, E.r⟩, E.b, E.k⟩
  | some q =>
    obtain ⟨v, ys⟩ := q
    rw [hv] at HN
    obtain ⟨u, rfl, -, hu⟩ := rdNum_back (bytes_suf hy ((List.suffix_cons 1 xs).trans hs)) hv
    obtain ⟨k0, hk0⟩ := HN
    have hk1 := hk0 k0 (Nat.le_refl _)
    clear hk0 hv hs
    simp only at hk1
    by_cases hu2 : u % 2 = 0
    · have ht : ((u : Int) % 2 == 1) = false := by rw [show ((u : Int) % 2) = 0 by omega]; rfl
      have hM : wrap64 (IntKind.u64.wrap ((u : Int) / 2)) = sgnG (u : Int) := by rw [sgnG_val u hu, if_pos hu2, wraps_u64 _ (by omega) (by omega)]; unfold wrap64; omega
      have HM := Aside0.mk hM
      have HU := Aside0.mk hu
      clear hu2 hM hu
      go_enter Try.func30, Try.ntmps30
      go_wp2_with (first | (go_at_call 44; (refine (sizarref01_Reader_next.calls g B (atOf B (1 :: xs)) false 1 (atOf B xs) false w0 _ V.out.r V.out.b hn).mono ?_); rintro e w1 ⟨rfl, hr, hb, hk⟩; have V1 := Aside0.mk (V.out.call hr hb hk); clear hr hb hk) | (go_at_call 45; (refine (sizarref01_Reader_number.calls k0 g B (atOf B xs) false (u : Int) (atOf B ys) false w0 _ V1.out.r V1.out.b hk1).mono ?_); rintro e w2 ⟨rfl, hr, hb, hk⟩; have V2 := Aside0.mk (V1.out.call hr hb hk); clear hr hb hk; have hu24 := Try.underlying24; obtain ⟨Ag, cg, hbg, -, -, -⟩ := V2.out.r; have gz0 := (blk_cell hbg 0).trans rfl; have gz1 := (blk_cell hbg 1).trans rfl; have gz2 := (blk_cell hbg 2).trans rfl; have gf1 := blk_frozen hbg 1; have gf2 := blk_frozen hbg 2; have vz0 := (blk_cell V2.out.v 0).trans rfl; have vf0 := blk_frozen V2.out.v 0; have vz1 := (blk_cell V2.out.v 1).trans rfl; have vf1 := blk_frozen V2.out.v 1; have vz2 := (blk_cell V2.out.v 2).trans rfl; have vf2 := blk_frozen V2.out.v 2; have vz3 := (blk_cell V2.out.v 3).trans rfl; have vf3 := blk_frozen V2.out.v 3; have hne := V2.out.r.ne24 V2.out.v; have hne2 := hne.symm; clear hbg))
      have E := ((((V2.out.set (Nat.le_refl _) GV.out 0 (.int .i64 1)).set (Nat.le_refl _) GV.out 1 (.int .i64 (wrap64 (IntKind.u64.wrap ((u : Int) / 2))))).set (Nat.le_refl _) GV.out 2 (.string ⟨#[]⟩)).set (Nat.le_refl _) GV.out 3 (.slice none 0 0))
      refine bodyPost_ret (results_cell_row rfl _ _ w.heap.size 24 #[.int .i64 1, .int .i64 (wrap64 (IntKind.u64.wrap ((u : Int) / 2))), .string ⟨#[]⟩, .slice none 0 0] (0, 0) _ rfl E.v hu24 rfl info24') rfl ?_
      exact ⟨⟨⟨_, by rw [HM.out], Kd.R_nil _ _ _ _ _⟩, E.r⟩, E.b, E.k⟩
    · have ht : ((u : Int) % 2 == 1) = true := by rw [show ((u : Int) % 2) = 1 by omega]; rfl
      have hM : wrap64 (wrap64 (-wrap64 (IntKind.u64.wrap ((u : Int) / 2))) - 1) = sgnG (u : Int) := by rw [sgnG_val u hu, if_neg hu2, wraps_u64 _ (by omega) (by omega)]; unfold wrap64; omega
      have HM := Aside0.mk hM
      have HU := Aside0.mk hu
      clear hu2 hM hu
      go_enter Try.func30, Try.ntmps30
      go_wp2_with (first | (go_at_call 44; (refine (sizarref01_Reader_next.calls g B (atOf B (1 :: xs)) false 1 (atOf B xs) false w0 _ V.out.r V.out.b hn).mono ?_); rintro e w1 ⟨rfl, hr, hb, hk⟩; have V1 := Aside0.mk (V.out.call hr hb hk); clear hr hb hk) | (go_at_call 45; (refine (sizarref01_Reader_number.calls k0 g B (atOf B xs) false (u : Int) (atOf B ys) false w0 _ V1.out.r V1.out.b hk1).mono ?_); rintro e w2 ⟨rfl, hr, hb, hk⟩; have V2 := Aside0.mk (V1.out.call hr hb hk); clear hr hb hk; have hu24 := Try.underlying24; obtain ⟨Ag, cg, hbg, -, -, -⟩ := V2.out.r; have gz0 := (blk_cell hbg 0).trans rfl; have gz1 := (blk_cell hbg 1).trans rfl; have gz2 := (blk_cell hbg 2).trans rfl; have gf1 := blk_frozen hbg 1; have gf2 := blk_frozen hbg 2; have vz0 := (blk_cell V2.out.v 0).trans rfl; have vf0 := blk_frozen V2.out.v 0; have vz1 := (blk_cell V2.out.v 1).trans rfl; have vf1 := blk_frozen V2.out.v 1; have vz2 := (blk_cell V2.out.v 2).trans rfl; have vf2 := blk_frozen V2.out.v 2; have vz3 := (blk_cell V2.out.v 3).trans rfl; have vf3 := blk_frozen V2.out.v 3; have hne := V2.out.r.ne24 V2.out.v; have hne2 := hne.symm; clear hbg))
      have E := ((((V2.out.set (Nat.le_refl _) GV.out 0 (.int .i64 1)).set (Nat.le_refl _) GV.out 1 (.int .i64 (wrap64 (wrap64 (-wrap64 (IntKind.u64.wrap ((u : Int) / 2))) - 1)))).set (Nat.le_refl _) GV.out 2 (.string ⟨#[]⟩)).set (Nat.le_refl _) GV.out 3 (.slice none 0 0))
      refine bodyPost_ret (results_cell_row rfl _ _ w.heap.size 24 #[.int .i64 1, .int .i64 (wrap64 (wrap64 (-wrap64 (IntKind.u64.wrap ((u : Int) / 2))) - 1)), .string ⟨#[]⟩, .slice none 0 0] (0, 0) _ rfl E.v hu24 rfl info24') rfl ?_
      exact ⟨⟨⟨_, by rw [HM.out], Kd.R_nil _ _ _ _ _⟩, E.r⟩, E.b, E.k⟩
end Go.Proofs.Ytgnkjhppfenmaaa.Q
/- The reference's reader: texts. -/
namespace Go.Proofs.Ytgnkjhppfenmaaa.Q
open Go.RowKit Go.Proofs.YtgnkjhppfenmaaaW.PrintWords Go.Proofs.YtgnkjhppfenmaaaW.PrintLast Go.Proofs.YtgnkjhppfenmaaaW.PrintMore
set_option linter.unusedVariables false
set_option linter.unusedSimpArgs false
variable {w0 w W W1 : World} {g gv : Nat} {cs : Array Value} {B : List Int} {p p' : Int} {bad bad' : Bool}
theorem US.drewN (h : US w0 w W g gv cs B p bad) (n : Nat) : US w0 w (W.drewN n) g gv cs B p bad := ⟨h.r.drewN n, pw_below_drewN h.b n, keep_drewN h.k n, blk_drewN h.v n⟩
set_option maxHeartbeats 8000000 in
set_option maxRecDepth 100000 in
theorem uval_two_bad (d : Int) {xs : List Int} (hB : Below w0.heap.size w0 w) (h : IsS60 w0 w g B (atOf B (2 :: xs)) false) (hs : 2 :: xs <:+ B) (hl : B.length ≤ 1000000) (hy : areBytes B = true) (hv : rdNum xs = none) :
    Calls Try.prog 30 #[.pointer (some ⟨g, 0, none⟩), .int .i64 d] w fun e w' => UEnds w0 w w' g B none e ∧ Below w0.heap.size w0 w' ∧ KeepBut w w' g none := by
  have V := Aside0.mk (US.new hB h #[.int .i64 0, .int .i64 0, .string ⟨#[]⟩, .slice none 0 0])
  have HG := Aside0.mk h.base
  have GL := Aside0.mk h.lt
  have GV := Aside0.mk hB.size
  have hn := next_some B 2 xs false hs hl
  have HN := refNum B hl hy xs ((List.suffix_cons 2 xs).trans hs)
  rw [hv] at HN
  obtain ⟨r1, r2, k0, hk0⟩ := HN
  have hk1 := hk0 k0 (Nat.le_refl _)
  clear hB h hk0 hv hs
  simp only at hk1
  go_enter Try.func30, Try.ntmps30
  go_wp2_with (first | (go_at_call 44; (refine (sizarref01_Reader_next.calls g B (atOf B (2 :: xs)) false 2 (atOf B xs) false w0 _ V.out.r V.out.b hn).mono ?_); rintro e w1 ⟨rfl, hr, hb, hk⟩; have V1 := Aside0.mk (V.out.call hr hb hk); clear hr hb hk) | (go_at_call 45; (refine (sizarref01_Reader_number.calls k0 g B (atOf B xs) false r1 r2 true w0 _ V1.out.r V1.out.b hk1).mono ?_); rintro e w2 ⟨rfl, hr, hb, hk⟩; have V2 := Aside0.mk (V1.out.call hr hb hk); clear hr hb hk; have hu24 := Try.underlying24; obtain ⟨Ag, cg, hbg, -, -, -⟩ := V2.out.r; have gz0 := (blk_cell hbg 0).trans rfl; have gz1 := (blk_cell hbg 1).trans rfl; have gz2 := (blk_cell hbg 2).trans rfl; have gf1 := blk_frozen hbg 1; have gf2 := blk_frozen hbg 2; have vz0 := (blk_cell V2.out.v 0).trans rfl; have vf0 := blk_frozen V2.out.v 0; have vz1 := (blk_cell V2.out.v 1).trans rfl; have vf1 := blk_frozen V2.out.v 1; have vz2 := (blk_cell V2.out.v 2).trans rfl; have vf2 := blk_frozen V2.out.v 2; have vz3 := (blk_cell V2.out.v 3).trans rfl; have vf3 := blk_frozen V2.out.v 3; have hne := V2.out.r.ne24 V2.out.v; have hne2 := hne.symm; clear hbg))
  go_quiet (fail)
  go_wp2
  have E := (((((V2.out.drewN nq).bad_ true).set (Nat.le_refl _) GV.out 0 (.int .i64 0)).set (Nat.le_refl _) GV.out 1 (.int .i64 0)).set (Nat.le_refl _) GV.out 2 (.string ⟨#[]⟩)).set (Nat.le_refl _) GV.out 3 (.slice none 0 0)
  refine bodyPost_ret (results_cell_row rfl _ _ w.heap.size 24 #[.int .i64 0, .int .i64 0, .string ⟨#[]⟩, .slice none 0 0] (0, 0) _ rfl E.v hu24 rfl info24') rfl ?_
  exact ⟨⟨⟨⟨0, 0, ⟨#[]⟩, []⟩, _, rfl, Kd.R_nil _ _ _ _ _⟩, _, E.r⟩, E.b, E.k⟩
set_option maxHeartbeats 8000000 in
set_option maxRecDepth 100000 in
theorem uval_three_bad (d : Int) {xs : List Int} (hB : Below w0.heap.size w0 w) (h : IsS60 w0 w g B (atOf B (3 :: xs)) false) (hs : 3 :: xs <:+ B) (hl : B.length ≤ 1000000) (hy : areBytes B = true) (hv : rdNum xs = none) :
    Calls Try.prog 30 #[.pointer (some ⟨g, 0, none⟩), .int .i64 d] w fun e w' => UEnds w0 w w' g B none e ∧ Below w0.heap.size w0 w' ∧ KeepBut w w' g none := by
  have V := Aside0.mk (US.new hB h #[.int .i64 0, .int .i64 0, .string ⟨#[]⟩, .slice none 0 0])
  have HG := Aside0.mk h.base
  have GL := Aside0.mk h.lt
  have GV := Aside0.mk hB.size
  have hn := next_some B 3 xs false hs hl
  have HN := refNum B hl hy xs ((List.suffix_cons 3 xs).trans hs)
  rw [hv] at HN
  obtain ⟨r1, r2, k0, hk0⟩ := HN
  have hk1 := hk0 k0 (Nat.le_refl _)
  clear hB h hk0 hv hs
  simp only at hk1
  go_enter Try.func30, Try.ntmps30
  go_wp2_with (first | (go_at_call 44; (refine (sizarref01_Reader_next.calls g B (atOf B (3 :: xs)) false 3 (atOf B xs) false w0 _ V.out.r V.out.b hn).mono ?_); rintro e w1 ⟨rfl, hr, hb, hk⟩; have V1 := Aside0.mk (V.out.call hr hb hk); clear hr hb hk) | (go_at_call 45; (refine (sizarref01_Reader_number.calls k0 g B (atOf B xs) false r1 r2 true w0 _ V1.out.r V1.out.b hk1).mono ?_); rintro e w2 ⟨rfl, hr, hb, hk⟩; have V2 := Aside0.mk (V1.out.call hr hb hk); clear hr hb hk; have hu24 := Try.underlying24; obtain ⟨Ag, cg, hbg, -, -, -⟩ := V2.out.r; have gz0 := (blk_cell hbg 0).trans rfl; have gz1 := (blk_cell hbg 1).trans rfl; have gz2 := (blk_cell hbg 2).trans rfl; have gf1 := blk_frozen hbg 1; have gf2 := blk_frozen hbg 2; have vz0 := (blk_cell V2.out.v 0).trans rfl; have vf0 := blk_frozen V2.out.v 0; have vz1 := (blk_cell V2.out.v 1).trans rfl; have vf1 := blk_frozen V2.out.v 1; have vz2 := (blk_cell V2.out.v 2).trans rfl; have vf2 := blk_frozen V2.out.v 2; have vz3 := (blk_cell V2.out.v 3).trans rfl; have vf3 := blk_frozen V2.out.v 3; have hne := V2.out.r.ne24 V2.out.v; have hne2 := hne.symm; clear hbg))
  go_quiet (fail)
  go_wp2
  have E := (((((V2.out.drewN nq).bad_ true).set (Nat.le_refl _) GV.out 0 (.int .i64 0)).set (Nat.le_refl _) GV.out 1 (.int .i64 0)).set (Nat.le_refl _) GV.out 2 (.string ⟨#[]⟩)).set (Nat.le_refl _) GV.out 3 (.slice none 0 0)
  refine bodyPost_ret (results_cell_row rfl _ _ w.heap.size 24 #[.int .i64 0, .int .i64 0, .string ⟨#[]⟩, .slice none 0 0] (0, 0) _ rfl E.v hu24 rfl info24') rfl ?_
  exact ⟨⟨⟨⟨0, 0, ⟨#[]⟩, []⟩, _, rfl, Kd.R_nil _ _ _ _ _⟩, _, E.r⟩, E.b, E.k⟩
theorem atOf_nat {B ys : List Int} (hs : ys <:+ B) (hl : B.length ≤ 1000000) : ∃ p : Nat, atOf B ys = (p : Int) ∧ B.length = p + ys.length ∧ B.drop p = ys := by
  obtain ⟨q, hq⟩ := hs
  refine ⟨q.length, ?_, ?_, ?_⟩
  · unfold atOf; rw [← hq]; simp
  · rw [← hq]; simp
  · rw [← hq]; simp
set_option maxHeartbeats 8000000 in
set_option maxRecDepth 100000 in
theorem uval_two_long (d : Int) {xs ys : List Int} (m : Nat) (hm64 : m < 2 ^ 64) (hB : Below w0.heap.size w0 w) (h : IsS60 w0 w g B (atOf B (2 :: xs)) false) (hs : 2 :: xs <:+ B) (hsy : ys <:+ B) (hl : B.length ≤ 1000000) (hy : areBytes B = true) (hv : rdNum xs = some ((m : Int), ys)) (hm : ys.length < m) :
    Calls Try.prog 30 #[.pointer (some ⟨g, 0, none⟩), .int .i64 d] w fun e w' => UEnds w0 w w' g B none e ∧ Below w0.heap.size w0 w' ∧ KeepBut w w' g none := by
  have V := Aside0.mk (US.new hB h #[.int .i64 0, .int .i64 0, .string ⟨#[]⟩, .slice none 0 0])
  have HG := Aside0.mk h.base
  have GL := Aside0.mk h.lt
  have GV := Aside0.mk hB.size
  have hn := next_some B 2 xs false hs hl
  have HN := refNum B hl hy xs ((List.suffix_cons 2 xs).trans hs)
  rw [hv] at HN
  obtain ⟨k0, hk0⟩ := HN
  have hk1 := hk0 k0 (Nat.le_refl _)
  obtain ⟨p, hp, hpl, -⟩ := atOf_nat hsy hl
  rw [hp] at hk1
  have q1 : IntKind.i64.wrap ((B.length : Int) - (p : Int)) = (ys.length : Int) := by rw [i64_w]; unfold wrap64; omega
  have q2 : IntKind.u64.wrap ((ys.length : Nat) : Int) = (ys.length : Int) := wraps_u64 _ (by omega) (by omega)
  have q3 : decide (ys.length < m) = true := decide_eq_true hm
  clear hB h hk0 hv hs hsy hm hp hpl hl hm64
  simp only at hk1
  go_enter Try.func30, Try.ntmps30
  go_wp2_with (first | (go_at_call 44; (refine (sizarref01_Reader_next.calls g B (atOf B (2 :: xs)) false 2 (atOf B xs) false w0 _ V.out.r V.out.b hn).mono ?_); rintro e w1 ⟨rfl, hr, hb, hk⟩; have V1 := Aside0.mk (V.out.call hr hb hk); clear hr hb hk) | (go_at_call 45; (refine (sizarref01_Reader_number.calls k0 g B (atOf B xs) false (m : Int) (p : Int) false w0 _ V1.out.r V1.out.b hk1).mono ?_); rintro e w2 ⟨rfl, hr, hb, hk⟩; have V2 := Aside0.mk (V1.out.call hr hb hk); clear hr hb hk; have hu24 := Try.underlying24; obtain ⟨Ag, cg, hbg, -, -, -⟩ := V2.out.r; have gz0 := (blk_cell hbg 0).trans rfl; have gz1 := (blk_cell hbg 1).trans rfl; have gz2 := (blk_cell hbg 2).trans rfl; have gf1 := blk_frozen hbg 1; have gf2 := blk_frozen hbg 2; have vz0 := (blk_cell V2.out.v 0).trans rfl; have vf0 := blk_frozen V2.out.v 0; have vz1 := (blk_cell V2.out.v 1).trans rfl; have vf1 := blk_frozen V2.out.v 1; have vz2 := (blk_cell V2.out.v 2).trans rfl; have vf2 := blk_frozen V2.out.v 2; have vz3 := (blk_cell V2.out.v 3).trans rfl; have vf3 := blk_frozen V2.out.v 3; have hne := V2.out.r.ne24 V2.out.v; have hne2 := hne.symm; clear hbg))
  go_quiet (fail)
  go_wp2
  have E := (((((V2.out.drewN nq).bad_ true).set (Nat.le_refl _) GV.out 0 (.int .i64 0)).set (Nat.le_refl _) GV.out 1 (.int .i64 0)).set (Nat.le_refl _) GV.out 2 (.string ⟨#[]⟩)).set (Nat.le_refl _) GV.out 3 (.slice none 0 0)
  refine bodyPost_ret (results_cell_row rfl _ _ w.heap.size 24 #[.int .i64 0, .int .i64 0, .string ⟨#[]⟩, .slice none 0 0] (0, 0) _ rfl E.v hu24 rfl info24') rfl ?_
  exact ⟨⟨⟨⟨0, 0, ⟨#[]⟩, []⟩, _, rfl, Kd.R_nil _ _ _ _ _⟩, _, E.r⟩, E.b, E.k⟩
set_option maxHeartbeats 8000000 in
set_option maxRecDepth 100000 in
theorem uval_three_long (d : Int) {xs ys : List Int} (m : Nat) (hm64 : m < 2 ^ 64) (hB : Below w0.heap.size w0 w) (h : IsS60 w0 w g B (atOf B (3 :: xs)) false) (hs : 3 :: xs <:+ B) (hsy : ys <:+ B) (hl : B.length ≤ 1000000) (hy : areBytes B = true) (hv : rdNum xs = some ((m : Int), ys)) (hm : ys.length < m) :
    Calls Try.prog 30 #[.pointer (some ⟨g, 0, none⟩), .int .i64 d] w fun e w' => UEnds w0 w w' g B none e ∧ Below w0.heap.size w0 w' ∧ KeepBut w w' g none := by
  have V := Aside0.mk (US.new hB h #[.int .i64 0, .int .i64 0, .string ⟨#[]⟩, .slice none 0 0])
  have HG := Aside0.mk h.base
  have GL := Aside0.mk h.lt
  have GV := Aside0.mk hB.size
  have hn := next_some B 3 xs false hs hl
  have HN := refNum B hl hy xs ((List.suffix_cons 3 xs).trans hs)
  rw [hv] at HN
  obtain ⟨k0, hk0⟩ := HN
  have hk1 := hk0 k0 (Nat.le_refl _)
  obtain ⟨p, hp, hpl, -⟩ := atOf_nat hsy hl
  rw [hp] at hk1
  have q1 : IntKind.i64.wrap ((B.length : Int) - (p : Int)) = (ys.length : Int) := by rw [i64_w]; unfold wrap64; omega
  have q2 : IntKind.u64.wrap ((ys.length : Nat) : Int) = (ys.length : Int) := wraps_u64 _ (by omega) (by omega)
  have q3 : decide (ys.length < m) = true := decide_eq_true hm
  clear hB h hk0 hv hs hsy hm hp hpl hl hm64
  simp only at hk1
  go_enter Try.func30, Try.ntmps30
  go_wp2_with (first | (go_at_call 44; (refine (sizarref01_Reader_next.calls g B (atOf B (3 :: xs)) false 3 (atOf B xs) false w0 _ V.out.r V.out.b hn).mono ?_); rintro e w1 ⟨rfl, hr, hb, hk⟩; have V1 := Aside0.mk (V.out.call hr hb hk); clear hr hb hk) | (go_at_call 45; (refine (sizarref01_Reader_number.calls k0 g B (atOf B xs) false (m : Int) (p : Int) false w0 _ V1.out.r V1.out.b hk1).mono ?_); rintro e w2 ⟨rfl, hr, hb, hk⟩; have V2 := Aside0.mk (V1.out.call hr hb hk); clear hr hb hk; have hu24 := Try.underlying24; obtain ⟨Ag, cg, hbg, -, -, -⟩ := V2.out.r; have gz0 := (blk_cell hbg 0).trans rfl; have gz1 := (blk_cell hbg 1).trans rfl; have gz2 := (blk_cell hbg 2).trans rfl; have gf1 := blk_frozen hbg 1; have gf2 := blk_frozen hbg 2; have vz0 := (blk_cell V2.out.v 0).trans rfl; have vf0 := blk_frozen V2.out.v 0; have vz1 := (blk_cell V2.out.v 1).trans rfl; have vf1 := blk_frozen V2.out.v 1; have vz2 := (blk_cell V2.out.v 2).trans rfl; have vf2 := blk_frozen V2.out.v 2; have vz3 := (blk_cell V2.out.v 3).trans rfl; have vf3 := blk_frozen V2.out.v 3; have hne := V2.out.r.ne24 V2.out.v; have hne2 := hne.symm; clear hbg))
  go_quiet (fail)
  go_wp2
  have E := (((((V2.out.drewN nq).bad_ true).set (Nat.le_refl _) GV.out 0 (.int .i64 0)).set (Nat.le_refl _) GV.out 1 (.int .i64 0)).set (Nat.le_refl _) GV.out 2 (.string ⟨#[]⟩)).set (Nat.le_refl _) GV.out 3 (.slice none 0 0)
  refine bodyPost_ret (results_cell_row rfl _ _ w.heap.size 24 #[.int .i64 0, .int .i64 0, .string ⟨#[]⟩, .slice none 0 0] (0, 0) _ rfl E.v hu24 rfl info24') rfl ?_
  exact ⟨⟨⟨⟨0, 0, ⟨#[]⟩, []⟩, _, rfl, Kd.R_nil _ _ _ _ _⟩, _, E.r⟩, E.b, E.k⟩
end Go.Proofs.Ytgnkjhppfenmaaa.Q
/- The reference's reader: a good text. -/
namespace Go.Proofs.Ytgnkjhppfenmaaa.Q
open Go.RowKit Go.Proofs.YtgnkjhppfenmaaaW.PrintWords Go.Proofs.YtgnkjhppfenmaaaW.PrintLast Go.Proofs.YtgnkjhppfenmaaaW.PrintMore
set_option linter.unusedVariables false
set_option linter.unusedSimpArgs false
variable {w0 w W W1 : World} {g gv : Nat} {cs : Array Value} {B : List Int} {p p' : Int} {bad bad' : Bool}
theorem US.drew (h : US w0 w W g gv cs B p bad) : US w0 w W.drew g gv cs B p bad := ⟨h.r.drew, below_drew1 h.b, ⟨h.k.1, h.k.2⟩, blk_drew h.v⟩
theorem w64_id (z : Int) (h : 0 ≤ z ∧ z ≤ 4000000) : wrap64 z = z := by unfold wrap64; omega
theorem u64_id (z : Int) (h : 0 ≤ z ∧ z ≤ 4000000) : IntKind.u64.wrap z = z := wraps_u64 _ h.1 (by omega)
set_option maxHeartbeats 8000000 in
set_option maxRecDepth 100000 in
theorem uval_two_good (d : Int) {xs ys : List Int} (m : Nat) (hB : Below w0.heap.size w0 w) (h : IsS60 w0 w g B (atOf B (2 :: xs)) false) (hs : 2 :: xs <:+ B) (hsy : ys <:+ B) (hl : B.length ≤ 1000000) (hy : areBytes B = true) (hv : rdNum xs = some ((m : Int), ys)) (hm : m ≤ ys.length) :
    Calls Try.prog 30 #[.pointer (some ⟨g, 0, none⟩), .int .i64 d] w fun e w' => UEnds w0 w w' g B (some (⟨2, 0, strOfNums (ys.take m), []⟩, ys.drop m)) e ∧ Below w0.heap.size w0 w' ∧ KeepBut w w' g none := by
  have V := Aside0.mk (US.new hB h #[.int .i64 0, .int .i64 0, .string ⟨#[]⟩, .slice none 0 0])
  have HG := Aside0.mk h.base
  have GL := Aside0.mk h.lt
  have GV := Aside0.mk hB.size
  have hn := next_some B 2 xs false hs hl
  have HN := refNum B hl hy xs ((List.suffix_cons 2 xs).trans hs)
  rw [hv] at HN
  obtain ⟨k0, hk0⟩ := HN
  have hk1 := hk0 k0 (Nat.le_refl _)
  obtain ⟨p, hp, hpl, hpd⟩ := atOf_nat hsy hl
  obtain ⟨p2, hp2, hpl2, -⟩ := atOf_nat ((List.drop_suffix m ys).trans hsy) hl
  obtain rfl : p2 = p + m := by simp at hpl2; omega
  rw [hp] at hk1
  have e1 : (B.length : Int) - (p : Int) = (ys.length : Int) := by omega
  have e2 : 0 ≤ (ys.length : Int) ∧ (ys.length : Int) ≤ 4000000 := by omega
  have e3 : 0 ≤ (m : Int) ∧ (m : Int) ≤ 4000000 := by omega
  have e4 : 0 ≤ (p : Int) ∧ (p : Int) ≤ 4000000 := by omega
  have e5 : 0 ≤ (p : Int) + m ∧ (p : Int) + m ≤ 4000000 := by omega
  have HM := Aside0.mk hm
  have HP := Aside0.mk hp2
  have HD := Aside0.mk hpd
  have HL := Aside0.mk (show p + m ≤ 1000000 ∧ p + m ≤ B.length by omega)
  have q3 : decide (ys.length < m) = false := decide_eq_false (by omega)
  have q1 : IntKind.i64.wrap ((B.length : Int) - (p : Int)) = (ys.length : Int) := by rw [e1, i64_w]; exact w64_id _ e2
  have q2 : IntKind.u64.wrap ((ys.length : Nat) : Int) = (ys.length : Int) := u64_id _ e2
  have q4 : wrap64 ((m : Nat) : Int) = (m : Int) := w64_id _ e3
  have q6 : wrap64 ((p : Nat) : Int) = (p : Int) := w64_id _ e4
  have q5 : wrap64 ((p : Int) + (m : Int)) = (p : Int) + (m : Int) := w64_id _ e5
  clear e1 e2 e3 e4 e5
  clear hB h hk0 hv hs hsy hm hp hpl hl hp2 hpl2 hpd
  simp only at hk1
  go_enter Try.func30, Try.ntmps30
  go_wp2_with (first | (go_at_call 44; (refine (sizarref01_Reader_next.calls g B (atOf B (2 :: xs)) false 2 (atOf B xs) false w0 _ V.out.r V.out.b hn).mono ?_); rintro e w1 ⟨rfl, hr, hb, hk⟩; have V1 := Aside0.mk (V.out.call hr hb hk); clear hr hb hk) | (go_at_call 45; (refine (sizarref01_Reader_number.calls k0 g B (atOf B xs) false (m : Int) (p : Int) false w0 _ V1.out.r V1.out.b hk1).mono ?_); rintro e w2 ⟨rfl, hr, hb, hk⟩; have V2 := Aside0.mk (V1.out.call hr hb hk); clear hr hb hk; have hu24 := Try.underlying24; obtain ⟨Ag, cg, hbg, -, -, -⟩ := V2.out.r; have gz0 := (blk_cell hbg 0).trans rfl; have gz1 := (blk_cell hbg 1).trans rfl; have gz2 := (blk_cell hbg 2).trans rfl; have gf1 := blk_frozen hbg 1; have gf2 := blk_frozen hbg 2; have vz0 := (blk_cell V2.out.v 0).trans rfl; have vf0 := blk_frozen V2.out.v 0; have vz1 := (blk_cell V2.out.v 1).trans rfl; have vf1 := blk_frozen V2.out.v 1; have vz2 := (blk_cell V2.out.v 2).trans rfl; have vf2 := blk_frozen V2.out.v 2; have vz3 := (blk_cell V2.out.v 3).trans rfl; have vf3 := blk_frozen V2.out.v 3; have hne := V2.out.r.ne24 V2.out.v; have hne2 := hne.symm; clear hbg))
  go_quiet (fail)
  go_wp2
  have V3 := Aside0.mk ((V2.out.drewN nq).at_ ((p : Int) + (m : Int)))
  clear V V1 V2 gz0 gz1 gz2 gf1 gf2 vz0 vf0 vz1 vf1 vz2 vf2 vz3 vf3 hne hne2 hk1
  generalize (w2.drewN nq).setCell ⟨g, 1, none⟩ (.int .i64 ((p : Int) + (m : Int))) = w3 at *
  obtain ⟨A3, c3, hbg, -, hC3, hc3⟩ := V3.out.r
  obtain ⟨A4, c4, hsl, hC4⟩ : ∃ (A4 : Option Addr) (c4 : Nat), (∀ w' : World, (Instr.slice 27 (.slice A3 B.length c3) (some (.int .i64 (p : Int))) (some (.int .i64 ((p : Int) + (m : Int)))) none).run Try.prog w' = .ok (.slice A4 m c4) w') ∧ (Kd.int .u8).C w0 A4 m (ys.take m) := by
    have h1 := Kd.C_drop hC3 (m := p) (by have := HL.out; omega) hc3
    rw [HD.out] at h1
    have h2 := Kd.C_take h1 HM.out
    rw [List.length_take, Nat.min_eq_left HM.out, show (Kd.int .u8).sz = 1 from rfl, Nat.mul_one] at h2
    refine ⟨_, c3 - p, fun w' => ?_, h2⟩
    have hu27 := Try.underlying27
    have hlo : (0 : Int) ≤ (p : Int) := by omega
    have hlh : (p : Int) ≤ (p : Int) + (m : Int) := by omega
    have hhc : (p : Int) + (m : Int) ≤ (c3 : Int) := by have := HL.out; omega
    have hm_ : ((p : Int) + (m : Int)).toNat = p + m := by omega
    go_simp
  have HC4 := Aside0.mk hC4
  have hf1 := blk_frozen V3.out.v 0
  clear hC4 hC3 hc3
  have hg0 := (blk_cell hbg 0).trans rfl
  have hg1 := (blk_cell hbg 1).trans rfl
  refine start_ (n := 19) (S := fun w' => w'.cell? ⟨g, 0, none⟩ = some (.slice A3 B.length c3) ∧ w'.cell? ⟨g, 1, none⟩ = some (.int .i64 ((p : Int) + (m : Int))) ∧ (Kd.int .u8).C w' A4 m (ys.take m)) (ds := [18]) #[false, false, false, false, false, false, false, false, false, false, false, false, false, false, false, false, false, false, false] (by kernel_rfl) rfl rfl ⟨hg0, hg1, Kd.C_below HC4.out (V3.out.b).drew⟩ (fun hHeld => ?_)
  refine pure_ (i := 0) (N := some 66) (v := ?_) (a' := ?_) #[true, false, false, false, false, false, false, false, false, false, false, false, false, false, false, false, false, false, false] rfl rfl (by kernel_rfl) (fun _ _ _ h => h) (Or.inl ⟨by rfl, ?_⟩) ?_ ?_
  rotate_left
  · intro w'
    go_simp
    with_reducible rfl
  rotate_left
  · simp only [Act.put, List.setIfInBounds_toArray, List.set_cons_zero, List.set_cons_succ, i64_w, i32_w]
    rfl
  refine pure_ (i := 1) (N := some 67) (v := ?_) (a' := ?_) #[true, true, false, false, false, false, false, false, false, false, false, false, false, false, false, false, false, false, false] rfl rfl (by kernel_rfl) (fun _ _ _ h => h) (Or.inl ⟨by rfl, ?_⟩) ?_ ?_
  rotate_left
  · intro w'
    go_simp
    with_reducible rfl
  rotate_left
  · simp only [Act.put, List.setIfInBounds_toArray, List.set_cons_zero, List.set_cons_succ, i64_w, i32_w]
    rfl
  refine pure_ (i := 2) (N := some 68) (v := ?_) (a' := ?_) #[true, true, true, false, false, false, false, false, false, false, false, false, false, false, false, false, false, false, false] rfl rfl (by kernel_rfl) (fun _ _ _ h => h) (Or.inl ⟨by rfl, ?_⟩) ?_ ?_
  rotate_left
  · intro w'
    go_simp
    with_reducible rfl
  rotate_left
  · simp only [Act.put, List.setIfInBounds_toArray, List.set_cons_zero, List.set_cons_succ, i64_w, i32_w]
    rfl
  refine take_ (i := 3) (N := some 69) (v := ?_) (a' := ?_) #[true, true, true, true, false, false, false, false, false, false, false, false, false, false, false, false, false, false, false] rfl rfl (by kernel_rfl) (fun _ _ _ h => h) (Or.inl ⟨by rfl, ?_⟩) hHeld ?_ ?_
  rotate_left
  · rintro w' ⟨s0, s1, s2⟩
    go_simp
    with_reducible rfl
  rotate_left
  · simp only [Act.put, List.setIfInBounds_toArray, List.set_cons_zero, List.set_cons_succ, i64_w, i32_w]
    rfl
  refine pure_ (i := 4) (N := some 70) (v := ?_) (a' := ?_) #[true, true, true, true, true, false, false, false, false, false, false, false, false, false, false, false, false, false, false] rfl rfl (by kernel_rfl) (fun _ _ _ h => h) (Or.inl ⟨by rfl, ?_⟩) ?_ ?_
  rotate_left
  · intro w'
    go_simp
    with_reducible rfl
  rotate_left
  · simp only [Act.put, List.setIfInBounds_toArray, List.set_cons_zero, List.set_cons_succ, i64_w, i32_w]
    rfl
  refine pure_ (i := 5) (N := some 71) (v := ?_) (a' := ?_) #[true, true, true, true, true, true, false, false, false, false, false, false, false, false, false, false, false, false, false] rfl rfl (by kernel_rfl) (fun _ _ _ h => h) (Or.inl ⟨by rfl, ?_⟩) ?_ ?_
  rotate_left
  · intro w'
    go_simp
    with_reducible rfl
  rotate_left
  · simp only [Act.put, List.setIfInBounds_toArray, List.set_cons_zero, List.set_cons_succ, i64_w, i32_w]
    rfl
  refine pure_ (i := 6) (N := some 72) (v := ?_) (a' := ?_) #[true, true, true, true, true, true, true, false, false, false, false, false, false, false, false, false, false, false, false] rfl rfl (by kernel_rfl) (fun _ _ _ h => h) (Or.inl ⟨by rfl, ?_⟩) ?_ ?_
  rotate_left
  · intro w'
    go_simp
    with_reducible rfl
  rotate_left
  · simp only [Act.put, List.setIfInBounds_toArray, List.set_cons_zero, List.set_cons_succ, i64_w, i32_w]
    rfl
  refine take_ (i := 7) (N := some 73) (v := ?_) (a' := ?_) #[true, true, true, true, true, true, true, true, false, false, false, false, false, false, false, false, false, false, false] rfl rfl (by kernel_rfl) (fun _ _ _ h => h) (Or.inl ⟨by rfl, ?_⟩) hHeld ?_ ?_
  rotate_left
  · rintro w' ⟨s0, s1, s2⟩
    go_simp
    with_reducible rfl
  rotate_left
  · simp only [Act.put, List.setIfInBounds_toArray, List.set_cons_zero, List.set_cons_succ, i64_w, i32_w]
    rfl
  refine pure_ (i := 8) (N := some 74) (v := ?_) (a' := ?_) #[true, true, true, true, true, true, true, true, true, false, false, false, false, false, false, false, false, false, false] rfl rfl (by kernel_rfl) (fun _ _ _ h => h) (Or.inl ⟨by rfl, ?_⟩) ?_ ?_
  rotate_left
  · intro w'
    go_simp
    with_reducible rfl
  rotate_left
  · simp only [Act.put, List.setIfInBounds_toArray, List.set_cons_zero, List.set_cons_succ, i64_w, i32_w]
    rfl
  refine pure_ (i := 9) (N := some 75) (v := ?_) (a' := ?_) #[true, true, true, true, true, true, true, true, true, true, false, false, false, false, false, false, false, false, false] rfl rfl (by kernel_rfl) (fun _ _ _ h => h) (Or.inl ⟨by rfl, ?_⟩) ?_ ?_
  rotate_left
  · intro w'
    go_simp
    with_reducible rfl
  rotate_left
  · simp only [Act.put, List.setIfInBounds_toArray, List.set_cons_zero, List.set_cons_succ, i64_w, i32_w]
    rfl
  refine pure_ (i := 10) (N := some 76) (v := ?_) (a' := ?_) #[true, true, true, true, true, true, true, true, true, true, true, false, false, false, false, false, false, false, false] rfl rfl (by kernel_rfl) (fun _ _ _ h => h) (Or.inl ⟨by rfl, ?_⟩) ?_ ?_
  rotate_left
  · intro w'
    go_simp
    with_reducible rfl
  rotate_left
  · simp only [Act.put, List.setIfInBounds_toArray, List.set_cons_zero, List.set_cons_succ, i64_w, i32_w]
    rfl
  refine pure_ (i := 11) (N := some 77) (v := ?_) (a' := ?_) #[true, true, true, true, true, true, true, true, true, true, true, true, false, false, false, false, false, false, false] rfl rfl (by kernel_rfl) (fun _ _ _ h => h) (Or.inl ⟨by rfl, ?_⟩) ?_ ?_
  rotate_left
  · intro w'
    go_simp
    with_reducible rfl
  rotate_left
  · simp only [Act.put, List.setIfInBounds_toArray, List.set_cons_zero, List.set_cons_succ, i64_w, i32_w]
    rfl
  refine pure_ (i := 12) (N := some 78) (v := ?_) (a' := ?_) #[true, true, true, true, true, true, true, true, true, true, true, true, true, false, false, false, false, false, false] rfl rfl (by kernel_rfl) (fun _ _ _ h => h) (Or.inl ⟨by rfl, ?_⟩) ?_ ?_
  rotate_left
  · intro w'
    go_simp
    with_reducible rfl
  rotate_left
  · simp only [Act.put, List.setIfInBounds_toArray, List.set_cons_zero, List.set_cons_succ, i64_w, i32_w]
    rfl
  refine pure_ (i := 13) (N := some 79) (v := ?_) (a' := ?_) #[true, true, true, true, true, true, true, true, true, true, true, true, true, true, false, false, false, false, false] rfl rfl (by kernel_rfl) (fun _ _ _ h => h) (Or.inl ⟨by rfl, ?_⟩) ?_ ?_
  rotate_left
  · intro w'
    go_simp
    with_reducible rfl
  rotate_left
  · simp only [Act.put, List.setIfInBounds_toArray, List.set_cons_zero, List.set_cons_succ, i64_w, i32_w]
    rfl
  refine take_ (i := 14) (N := some 80) (v := ?_) (a' := ?_) #[true, true, true, true, true, true, true, true, true, true, true, true, true, true, true, false, false, false, false] rfl rfl (by kernel_rfl) (fun _ _ _ h => h) (Or.inl ⟨by rfl, ?_⟩) hHeld ?_ ?_
  rotate_left
  · rintro w' ⟨s0, s1, s2⟩
    go_simp
    with_reducible rfl
  rotate_left
  · simp only [Act.put, List.setIfInBounds_toArray, List.set_cons_zero, List.set_cons_succ, i64_w, i32_w]
    rfl
  refine pure_ (i := 15) (N := some 81) (v := ?_) (a' := ?_) #[true, true, true, true, true, true, true, true, true, true, true, true, true, true, true, true, false, false, false] rfl rfl (by kernel_rfl) (fun _ _ _ h => h) (Or.inl ⟨by rfl, ?_⟩) ?_ ?_
  rotate_left
  · intro w'
    go_simp
    with_reducible rfl
  rotate_left
  · simp only [Act.put, List.setIfInBounds_toArray, List.set_cons_zero, List.set_cons_succ, i64_w, i32_w]
    rfl
  refine take_ (i := 16) (N := some 82) (v := ?_) (a' := ?_) #[true, true, true, true, true, true, true, true, true, true, true, true, true, true, true, true, true, false, false] rfl rfl (by kernel_rfl) (fun _ _ _ h => h) (Or.inl ⟨by rfl, ?_⟩) hHeld ?_ ?_
  rotate_left
  · rintro w' ⟨s0, s1, s2⟩
    have hcv := Kd.C_string (P := Try.prog) (c := c4) Try.underlying27 Try.underlying5 Try.underlying9 s2
    go_simp
    with_reducible rfl
  rotate_left
  · simp only [Act.put, List.setIfInBounds_toArray, List.set_cons_zero, List.set_cons_succ, i64_w, i32_w]
    rfl
  refine pure_ (i := 17) (N := some 83) (v := ?_) (a' := ?_) #[true, true, true, true, true, true, true, true, true, true, true, true, true, true, true, true, true, true, false] rfl rfl (by kernel_rfl) (fun _ _ _ h => h) (Or.inl ⟨by rfl, ?_⟩) ?_ ?_
  rotate_left
  · intro w'
    go_simp
    with_reducible rfl
  rotate_left
  · simp only [Act.put, List.setIfInBounds_toArray, List.set_cons_zero, List.set_cons_succ, i64_w, i32_w]
    rfl
  refine last_ (i := 18) (N := none) #[true, true, true, true, true, true, true, true, true, true, true, true, true, true, true, true, true, true, true] rfl rfl (by kernel_rfl) (by decide) (fun K hK => ?_)
  have vz0 := (blk_cell V3.out.v 0).trans rfl
  have vf0 := blk_frozen V3.out.v 0
  have vz1 := (blk_cell V3.out.v 1).trans rfl
  have vf1 := blk_frozen V3.out.v 1
  have vz2 := (blk_cell V3.out.v 2).trans rfl
  have vf2 := blk_frozen V3.out.v 2
  have vz3 := (blk_cell V3.out.v 3).trans rfl
  have vf3 := blk_frozen V3.out.v 3
  refine skip_ (w1 := ?_) (by rfl) rfl ?_ ?_
  rotate_left
  · go_simp
    rfl
  refine hK.out _ _ ?_
  clear hK K
  refine done_ (by kernel_rfl) ?_
  go_wp2
  have E := ((((V3.out.set (Nat.le_refl _) GV.out 0 (.int .i64 2)).set (Nat.le_refl _) GV.out 1 (.int .i64 0)).set (Nat.le_refl _) GV.out 2 (.string (strOfNums (ys.take m)))).set (Nat.le_refl _) GV.out 3 (.slice none 0 0)).drew
  have hpe : atOf B (ys.drop m) = (p : Int) + m := HP.out.trans (by simp)
  refine bodyPost_ret (results_cell_row rfl _ _ w.heap.size 24 #[.int .i64 2, .int .i64 0, .string (strOfNums (ys.take m)), .slice none 0 0] (0, 0) _ rfl E.v hu24 rfl info24') rfl ?_
  exact ⟨⟨⟨_, rfl, Kd.R_nil _ _ _ _ _⟩, by rw [hpe]; exact E.r⟩, E.b, E.k⟩
end Go.Proofs.Ytgnkjhppfenmaaa.Q
/- The reference's reader: lists, and every value. -/
namespace Go.Proofs.Ytgnkjhppfenmaaa.Q
open Go.RowKit Go.Proofs.YtgnkjhppfenmaaaW.PrintWords Go.Proofs.YtgnkjhppfenmaaaW.PrintLast Go.Proofs.YtgnkjhppfenmaaaW.PrintMore
set_option linter.unusedVariables false
set_option linter.unusedSimpArgs false
variable {w0 w W W1 : World} {g gv : Nat} {cs : Array Value} {B : List Int} {p p' : Int} {bad bad' : Bool}
set_option maxHeartbeats 8000000 in
set_option maxRecDepth 100000 in
theorem uval_three_deep {xs ys : List Int} (m : Nat) (hB : Below w0.heap.size w0 w) (h : IsS60 w0 w g B (atOf B (3 :: xs)) false) (hs : 3 :: xs <:+ B) (hsy : ys <:+ B) (hl : B.length ≤ 1000000) (hy : areBytes B = true) (hv : rdNum xs = some ((m : Int), ys)) (hm : m ≤ ys.length) :
    Calls Try.prog 30 #[.pointer (some ⟨g, 0, none⟩), .int .i64 16] w fun e w' => UEnds w0 w w' g B none e ∧ Below w0.heap.size w0 w' ∧ KeepBut w w' g none := by
  have V := Aside0.mk (US.new hB h #[.int .i64 0, .int .i64 0, .string ⟨#[]⟩, .slice none 0 0])
  have HG := Aside0.mk h.base
  have GL := Aside0.mk h.lt
  have GV := Aside0.mk hB.size
  have hn := next_some B 3 xs false hs hl
  have HN := refNum B hl hy xs ((List.suffix_cons 3 xs).trans hs)
  rw [hv] at HN
  obtain ⟨k0, hk0⟩ := HN
  have hk1 := hk0 k0 (Nat.le_refl _)
  obtain ⟨p, hp, hpl, -⟩ := atOf_nat hsy hl
  have HPE := Aside0.mk hp
  rw [hp] at hk1
  have e1 : (B.length : Int) - (p : Int) = (ys.length : Int) := by omega
  have e2 : 0 ≤ (ys.length : Int) ∧ (ys.length : Int) ≤ 4000000 := by omega
  have HM := Aside0.mk (show m ≤ 1000000 by omega)
  have HY := Aside0.mk hsy
  have q3 : decide (ys.length < m) = false := decide_eq_false (by omega)
  have q1 : IntKind.i64.wrap ((B.length : Int) - (p : Int)) = (ys.length : Int) := by rw [e1, i64_w]; exact w64_id _ e2
  have q2 : IntKind.u64.wrap ((ys.length : Nat) : Int) = (ys.length : Int) := u64_id _ e2
  clear e1 e2 hB h hk0 hv hs hsy hm hp hpl hl
  simp only at hk1
  go_enter Try.func30, Try.ntmps30
  go_wp2_with (first | (go_at_call 44; (refine (sizarref01_Reader_next.calls g B (atOf B (3 :: xs)) false 3 (atOf B xs) false w0 _ V.out.r V.out.b hn).mono ?_); rintro e w1 ⟨rfl, hr, hb, hk⟩; have V1 := Aside0.mk (V.out.call hr hb hk); clear hr hb hk) | (go_at_call 45; (refine (sizarref01_Reader_number.calls k0 g B (atOf B xs) false (m : Int) (p : Int) false w0 _ V1.out.r V1.out.b hk1).mono ?_); rintro e w2 ⟨rfl, hr, hb, hk⟩; have V2 := Aside0.mk (V1.out.call hr hb hk); clear hr hb hk; have hu24 := Try.underlying24; obtain ⟨Ag, cg, hbg, -, -, -⟩ := V2.out.r; have gz0 := (blk_cell hbg 0).trans rfl; have gz1 := (blk_cell hbg 1).trans rfl; have gz2 := (blk_cell hbg 2).trans rfl; have gf1 := blk_frozen hbg 1; have gf2 := blk_frozen hbg 2; have vz0 := (blk_cell V2.out.v 0).trans rfl; have vf0 := blk_frozen V2.out.v 0; have vz1 := (blk_cell V2.out.v 1).trans rfl; have vf1 := blk_frozen V2.out.v 1; have vz2 := (blk_cell V2.out.v 2).trans rfl; have vf2 := blk_frozen V2.out.v 2; have vz3 := (blk_cell V2.out.v 3).trans rfl; have vf3 := blk_frozen V2.out.v 3; have hne := V2.out.r.ne24 V2.out.v; have hne2 := hne.symm; clear hbg))
  go_quiet (fail)
  go_wp2
  have E := (((((V2.out.drewN nq).bad_ true).set (Nat.le_refl _) GV.out 0 (.int .i64 0)).set (Nat.le_refl _) GV.out 1 (.int .i64 0)).set (Nat.le_refl _) GV.out 2 (.string ⟨#[]⟩)).set (Nat.le_refl _) GV.out 3 (.slice none 0 0)
  refine bodyPost_ret (results_cell_row rfl _ _ w.heap.size 24 #[.int .i64 0, .int .i64 0, .string ⟨#[]⟩, .slice none 0 0] (0, 0) _ rfl E.v hu24 rfl info24') rfl ?_
  exact ⟨⟨⟨⟨0, 0, ⟨#[]⟩, []⟩, _, rfl, Kd.R_nil _ _ _ _ _⟩, _, E.r⟩, E.b, E.k⟩
variable {gb : Nat}
/-- the two values under way: the result's, and the list's -/
structure US2 (w0 w W : World) (g gv gb : Nat) (cs : Array Value) (B : List Int) (p : Int) (bad : Bool) : Prop where
  u : US w0 w W g gv #[.int .i64 0, .int .i64 0, .string ⟨#[]⟩, .slice none 0 0] B p bad
  v : W.heap[gb]? = some (.cells cs 24 (0, 0))
  ne : gv ≠ gb
  lo : w.heap.size ≤ gb
  l0 : w0.heap.size ≤ w.heap.size
theorem US2.set (h : US2 w0 w W g gv gb cs B p bad) (j : Nat) (u : Value) : US2 w0 w (W.setCell ⟨gb, j, none⟩ u) g gv gb (cs.setIfInBounds j u) B p bad :=
  have hs : US w0 w W g gb cs B p bad := ⟨h.u.r, h.u.b, h.u.k, h.v⟩
  have h2 := hs.set h.lo (Nat.le_trans h.l0 h.lo) j u
  ⟨⟨h2.r, h2.b, h2.k, blk_far h.u.v h.ne u⟩, h2.v, h.ne, h.lo, h.l0⟩
theorem US2.call (h : US2 w0 w W g gv gb cs B p bad) (hr : IsS60 w0 W1 g B p' bad') (hb : Below w0.heap.size w0 W1) (hk : KeepBut W W1 g none) : US2 w0 w W1 g gv gb cs B p' bad' :=
  ⟨h.u.call hr hb hk, hk.blk h.v (fun e => h.u.r.ne24 h.v e.symm) (by simp), h.ne, h.lo, h.l0⟩
theorem US2.drew (h : US2 w0 w W g gv gb cs B p bad) : US2 w0 w W.drew g gv gb cs B p bad := ⟨h.u.drew, blk_drew h.v, h.ne, h.lo, h.l0⟩
theorem US2.drewN (h : US2 w0 w W g gv gb cs B p bad) (n : Nat) : US2 w0 w (W.drewN n) g gv gb cs B p bad := ⟨h.u.drewN n, blk_drewN h.v n, h.ne, h.lo, h.l0⟩
theorem US2.alloc (h : US2 w0 w W g gv gb cs B p bad) (o : Obj) : US2 w0 w (W.alloc o) g gv gb cs B p bad :=
  ⟨⟨h.u.r.alloc o, h.u.b.alloc h.u.b.size o, keep_alloc h.u.k o, blk_alloc h.u.v o⟩, blk_alloc h.v o, h.ne, h.lo, h.l0⟩
theorem US2.grown {row : Option Nat} (h : US2 w0 w W g gv gb cs B p bad) (hg : W.grownBy W1 row) (hrow : ∀ k, row = some k → gb < k) (hgv : gv < gb) (hgl : g < w.heap.size) : US2 w0 w W1 g gv gb cs B p bad :=
  ⟨⟨h.u.r.grown hg (fun e => by have := hrow g e.symm; have := h.lo; omega), h.u.b.grown hg h.u.b.size (fun k hk => by have := hrow k hk; have := h.lo; have := h.l0; omega),
    ⟨Nat.le_trans h.u.k.1 hg.size, fun i hi hne hr => (hg.block i (Nat.lt_of_lt_of_le hi h.u.k.1) (fun e => by have := hrow i e.symm; have := h.lo; omega)).trans (h.u.k.2 i hi hne hr)⟩,
    blk_grown h.u.v hg (fun e => by have := hrow gv e.symm; omega)⟩, blk_grown h.v hg (fun e => by have := hrow gb e.symm; omega), h.ne, h.lo, h.l0⟩
theorem US2.new (h : US w0 w W g gv #[.int .i64 0, .int .i64 0, .string ⟨#[]⟩, .slice none 0 0] B p bad) (h0 : w0.heap.size ≤ w.heap.size) (cs : Array Value) : US2 w0 w (W.alloc (.cells cs 24)) g gv W.heap.size cs B p bad :=
  ⟨⟨h.r.alloc _, h.b.alloc h.b.size _, keep_alloc h.k _, blk_alloc h.v _⟩, blk_new _ _, Nat.ne_of_lt (blk_lt h.v), h.k.1, h0⟩
/-- what is said of the values within n lists more -/
def UValSays (n : Nat) : Prop := ∀ (d : Int) (w0 w : World) (g : Nat) (B xs : List Int), 0 ≤ d → d + n = 16 → Below w0.heap.size w0 w → IsS60 w0 w g B (atOf B xs) false → xs <:+ B → B.length ≤ 1000000 → areBytes B = true →
    Calls Try.prog 30 #[.pointer (some ⟨g, 0, none⟩), .int .i64 d] w fun e w' => UEnds w0 w w' g B (rdVal n xs) e ∧ Below w0.heap.size w0 w' ∧ KeepBut w w' g none
/-- what the value and the reader's state say of the result -/
def UTail (B : List Int) (r : Option (S24 × List Int)) (x : S24) (p1 : Int) (bad1 : Bool) : Prop := match r with | some (x', ys) => x = x' ∧ p1 = atOf B ys ∧ bad1 = false | none => bad1 = true
theorem UEnds.all {w' : World} {r : Option (S24 × List Int)} {e : Ending} (h : UEnds w0 w w' g B r e) : ∃ (x : S24) (v3 : Value) (p1 : Int) (bad1 : Bool), e = .returned (.agg #[.int .i64 x.f0, .int .i64 x.f1, .string x.f2, v3]) ∧ Kd.R k24 24 w' w0.heap.size (fun k_ => w.heap.size ≤ k_) v3 x.f3 ∧ IsS60 w0 w' g B p1 bad1 ∧ UTail B r x p1 bad1 := by
  cases r with
  | none =>
    obtain ⟨⟨x, v3, he, hr⟩, p1, hs⟩ := h
    exact ⟨x, v3, p1, true, he, hr, hs, rfl⟩
  | some q =>
    obtain ⟨x, ys⟩ := q
    obtain ⟨⟨v3, he, hr⟩, hs⟩ := h
    exact ⟨x, v3, _, false, he, hr, hs, rfl, rfl, rfl⟩
/-- how far the reading of a list's elements has come -/
def LProg (n m : Nat) (B ys0 : List Int) (i : Nat) (l : List S24) (pp : Int) (bad : Bool) : Prop :=
  (bad = false ∧ ∃ ys, pp = atOf B ys ∧ ys <:+ B ∧ rdMany (rdVal n) m ys0 = match rdMany (rdVal n) (m - i) ys with | some (l2, r3) => some (l ++ l2, r3) | none => none) ∨ (bad = true ∧ rdMany (rdVal n) m ys0 = none)
set_option maxHeartbeats 8000000 in
set_option maxRecDepth 100000 in
theorem uval_three_good {n : Nat} (IH : UValSays n) (d : Int) (hd0 : 0 ≤ d) (hd : d + (n + 1 : Nat) = 16) {xs ys : List Int} (m : Nat) (hB : Below w0.heap.size w0 w) (h : IsS60 w0 w g B (atOf B (3 :: xs)) false) (hs : 3 :: xs <:+ B) (hsy : ys <:+ B) (hl : B.length ≤ 1000000) (hy : areBytes B = true) (hv : rdNum xs = some ((m : Int), ys)) (hm : m ≤ ys.length) (r0 : Option (S24 × List Int)) (hr0 : (match rdMany (rdVal n) m ys with | some (l, r3) => some (⟨3, 0, ⟨#[]⟩, l⟩, r3) | none => none) = r0) :
    Calls Try.prog 30 #[.pointer (some ⟨g, 0, none⟩), .int .i64 d] w fun e w' => UEnds w0 w w' g B r0 e ∧ Below w0.heap.size w0 w' ∧ KeepBut w w' g none := by
  have V := Aside0.mk (US.new hB h #[.int .i64 0, .int .i64 0, .string ⟨#[]⟩, .slice none 0 0])
  have HG := Aside0.mk h.base
  have GL := Aside0.mk h.lt
  have GV := Aside0.mk hB.size
  have hn := next_some B 3 xs false hs hl
  have HN := refNum B hl hy xs ((List.suffix_cons 3 xs).trans hs)
  rw [hv] at HN
  obtain ⟨k0, hk0⟩ := HN
  have hk1 := hk0 k0 (Nat.le_refl _)
  obtain ⟨p, hp, hpl, -⟩ := atOf_nat hsy hl
  have HPE := Aside0.mk hp
  rw [hp] at hk1
  have e1 : (B.length : Int) - (p : Int) = (ys.length : Int) := by omega
  have e2 : 0 ≤ (ys.length : Int) ∧ (ys.length : Int) ≤ 4000000 := by omega
  have HM := Aside0.mk (show m ≤ 1000000 by omega)
  have HY := Aside0.mk hsy
  have HLB := Aside0.mk hl
  have HYB := Aside0.mk hy
  have HRES := Aside0.mk hr0
  clear hr0
  have IH := Aside0.mk IH
  have D0 : (d == 16) = false := beq_eq_false_iff_ne.mpr (by omega)
  have D1 := Aside0.mk (show d + 1 + (n : Int) = 16 by omega)
  have D2 := Aside0.mk (show 0 ≤ d + 1 by omega)
  have W1 := Aside0.mk (show wrap64 (d + 1) = d + 1 by unfold wrap64; omega)
  clear hd hd0
  have q3 : decide (ys.length < m) = false := decide_eq_false (by omega)
  have q1 : IntKind.i64.wrap ((B.length : Int) - (p : Int)) = (ys.length : Int) := by rw [e1, i64_w]; exact w64_id _ e2
  have q2 : IntKind.u64.wrap ((ys.length : Nat) : Int) = (ys.length : Int) := u64_id _ e2
  clear e1 e2 hB h hk0 hv hs hsy hm hp hpl hl
  simp only at hk1
  go_enter Try.func30, Try.ntmps30
  go_wp2_with (first | (go_at_call 44; (refine (sizarref01_Reader_next.calls g B (atOf B (3 :: xs)) false 3 (atOf B xs) false w0 _ V.out.r V.out.b hn).mono ?_); rintro e w1 ⟨rfl, hr, hb, hk⟩; have V1 := Aside0.mk (V.out.call hr hb hk); clear hr hb hk) | (go_at_call 45; (refine (sizarref01_Reader_number.calls k0 g B (atOf B xs) false (m : Int) (p : Int) false w0 _ V1.out.r V1.out.b hk1).mono ?_); rintro e w2 ⟨rfl, hr, hb, hk⟩; have V2 := Aside0.mk (V1.out.call hr hb hk); clear hr hb hk; have hu24 := Try.underlying24; obtain ⟨Ag, cg, hbg, -, -, -⟩ := V2.out.r; have gz0 := (blk_cell hbg 0).trans rfl; have gz1 := (blk_cell hbg 1).trans rfl; have gz2 := (blk_cell hbg 2).trans rfl; have gf1 := blk_frozen hbg 1; have gf2 := blk_frozen hbg 2; have vz0 := (blk_cell V2.out.v 0).trans rfl; have vf0 := blk_frozen V2.out.v 0; have vz1 := (blk_cell V2.out.v 1).trans rfl; have vf1 := blk_frozen V2.out.v 1; have vz2 := (blk_cell V2.out.v 2).trans rfl; have vf2 := blk_frozen V2.out.v 2; have vz3 := (blk_cell V2.out.v 3).trans rfl; have vf3 := blk_frozen V2.out.v 3; have hne := V2.out.r.ne24 V2.out.v; have hne2 := hne.symm; clear hbg))
  go_quiet (fail)
  have V3 := Aside0.mk (V2.out.drewN nq)
  clear V V1 V2 gz0 gz1 gz2 gf1 gf2 vz0 vf0 vz1 vf1 vz2 vf2 vz3 vf3 hne hne2 hk1
  generalize w2.drewN nq = w3 at *
  go_wp2
  have V4 := Aside0.mk (US2.new V3.out GV.out #[.int .i64 3, .int .i64 0, .string ⟨#[]⟩, .slice none 0 0])
  have GVB := Aside0.mk (blk_lt V3.out.v)
  clear V3
  generalize w3.alloc (.cells #[.int .i64 3, .int .i64 0, .string ⟨#[]⟩, .slice none 0 0] 24) = w4 at *
  generalize w3.heap.size = gb at *
  go_loopg [9] m (fun kq v9 w' => ∃ (i : Nat) (l : List S24) (vL : Value) (pp : Int) (bd : Bool), v9 = .int .u64 i ∧ Aside0 (kq + i = m ∧ l.length = i) ∧ Aside0 (US2 w0 w w' g w.heap.size gb #[.int .i64 3, .int .i64 0, .string ⟨#[]⟩, vL] B pp bd) ∧ Aside0 (Kd.R k24 24 w' w0.heap.size (fun k_ => gb < k_) vL l) ∧ Aside0 (LProg n m B ys i l pp bd))
  case atStart => exact ⟨0, [], _, _, _, rfl, ⟨by simp⟩, V4, ⟨Kd.R_nil _ _ _ _ _⟩, ⟨.inl ⟨rfl, ys, HPE.out.symm, HY.out, by simp only [Nat.sub_zero, List.nil_append]; cases rdMany (rdVal n) m ys <;> rfl⟩⟩⟩
  clear V4
  obtain ⟨i, l, vL, pp, bd, rfl, HI, VR, RL, HP⟩ := hrel
  rcases HP.out with ⟨rfl, yr, rfl, hsy, hE⟩ | ⟨rfl, hE⟩
  · have HS := Aside0.mk hsy
    have HE := Aside0.mk hE
    clear HP hsy hE
    by_cases hi : i < m
    · have hi0 : decide (i < m) = true := decide_eq_true hi
      have MK := Aside0.mk (show m - i = (m - (i + 1)) + 1 by omega)
      have WI := Aside0.mk (show IntKind.u64.wrap ((i : Int) + 1) = ((i + 1 : Nat) : Int) by have := HM.out; exact u64_id _ (by omega))
      have HLT := Aside0.mk hi
      clear hi
      obtain ⟨Ag, cg, hbg, -, -, -⟩ := VR.out.u.r
      have gz2 := (blk_cell hbg 2).trans rfl
      clear hbg
      go_wp2
      clear gz2
      replace VR := Aside0.mk VR.out.drew
      replace RL := Aside0.mk (Kd.R_drew RL.out)
      have Z6 := Aside0.mk (blk_lt VR.out.v)
      refine start_ (n := 10) (S := fun w' => w'.cell? ⟨gb, 3, none⟩ = some vL) (ds := [9]) #[false, false, false, false, false, false, false, false, false, false] (by kernel_rfl) rfl rfl ((blk_cell VR.out.v 3).trans rfl) (fun hHeld => ?_)
      generalize wr.drew = w6 at *
      refine pure_ (i := 0) (N := some 128) (v := ?_) (a' := ?_) #[true, false, false, false, false, false, false, false, false, false] rfl rfl (by kernel_rfl) (fun _ _ _ h => h) (Or.inl ⟨by rfl, ?_⟩) ?_ ?_
      rotate_left
      · intro w'
        go_simp
        with_reducible rfl
      rotate_left
      · simp only [Act.put, List.setIfInBounds_toArray, List.set_cons_zero, List.set_cons_succ, i64_w, i32_w]
        rfl
      refine pure_ (i := 2) (N := some 130) (v := ?_) (a' := ?_) #[true, false, true, false, false, false, false, false, false, false] rfl rfl (by kernel_rfl) (fun _ _ _ h => h) (Or.inl ⟨by rfl, ?_⟩) ?_ ?_
      rotate_left
      · intro w'
        go_simp
        with_reducible rfl
      rotate_left
      · simp only [Act.put, List.setIfInBounds_toArray, List.set_cons_zero, List.set_cons_succ, i64_w, i32_w]
        rfl
      refine pure_ (i := 3) (N := some 131) (v := ?_) (a' := ?_) #[true, false, true, true, false, false, false, false, false, false] rfl rfl (by kernel_rfl) (fun _ _ _ h => h) (Or.inl ⟨by rfl, ?_⟩) ?_ ?_
      rotate_left
      · intro w'
        go_simp
        with_reducible rfl
      rotate_left
      · simp only [Act.put, List.setIfInBounds_toArray, List.set_cons_zero, List.set_cons_succ, i64_w, i32_w]
        rfl
      refine pure_ (i := 4) (N := some 132) (v := ?_) (a' := ?_) #[true, false, true, true, true, false, false, false, false, false] rfl rfl (by kernel_rfl) (fun _ _ _ h => h) (Or.inl ⟨by rfl, ?_⟩) ?_ ?_
      rotate_left
      · intro w'
        go_simp
        with_reducible rfl
      rotate_left
      · simp only [Act.put, List.setIfInBounds_toArray, List.set_cons_zero, List.set_cons_succ, i64_w, i32_w]
        rfl
      refine take_ (i := 1) (N := some 129) (v := ?_) (a' := ?_) #[true, true, true, true, true, false, false, false, false, false] rfl rfl (by kernel_rfl) (fun _ _ _ h => h) (Or.inl ⟨by rfl, ?_⟩) hHeld ?_ ?_
      rotate_left
      · rintro w' s0
        go_simp
        with_reducible rfl
      rotate_left
      · simp only [Act.put, List.setIfInBounds_toArray, List.set_cons_zero, List.set_cons_succ, i64_w, i32_w]
        rfl
      refine one_ (i := 5) (N := some 133) #[true, true, true, true, true, true, false, false, false, false] rfl rfl (by kernel_rfl) (by decide) (fun K hK => ?_)
      refine goesP_ Try.func30 (by kernel_rfl) rfl #[.pointer (some ⟨g, 0, none⟩), .int .i64 (wrap64 (d + 1))] (by rfl) rfl rfl (by (try simp only [List.map_toArray, List.map_cons, List.map_nil]); first | done | rfl) ?_
      rw [W1.out]
      refine (IH.out (d + 1) w0 _ g B yr D2.out D1.out VR.out.u.b VR.out.u.r HS.out HLB.out HYB.out).mono ?_
      rintro e w7 ⟨he, hb, hk⟩
      obtain ⟨x, v3, p7, bad7, rfl, R3, hr, hres⟩ := UEnds.all he
      refine .inl ⟨_, rfl, ?_⟩
      have V7 := Aside0.mk (VR.out.call hr hb hk)
      have L7 := Aside0.mk (Kd.R_keep RL.out hk (fun k hk_ => by have h1 := GL.out; have h2 := VR.out.lo; omega))
      have OWN := Aside0.mk (Kd.R_lt RL.out)
      have HV7 := Aside0.mk hres
      have R7 := Aside0.mk R3
      have S7 := Aside0.mk hk.1
      clear he hr hk hb R3 RL VR hres
      refine hK.out _ _ ((blk_cell V7.out.v 3).trans rfl) (fun hHeld => ?_)
      clear hK K
      refine norm_ (a' := ?_) ?_ ?_
      rotate_left
      · show Act.put _ (some 133) _ = _
        simp only [Act.put, List.setIfInBounds_toArray, List.set_cons_zero, List.set_cons_succ, i64_w, i32_w]
        rfl
      refine one_ (i := 6) (N := some 134) #[true, true, true, true, true, true, true, false, false, false] rfl rfl (by kernel_rfl) (by decide) (fun K hK => ?_)
      refine value_ (w1 := ?_) (v := ?_) (by rfl) rfl ?_ ?_
      rotate_left 2
      · go_simp
        constructor
        · rfl
        · rfl
      refine hK.out _ _ ((blk_cell (V7.out.alloc (.cells #[.int .i64 x.f0, .int .i64 x.f1, .string x.f2, v3] 24)).v 3).trans rfl) (fun hHeld => ?_)
      clear hK K
      refine norm_ (a' := ?_) ?_ ?_
      rotate_left
      · show Act.put _ (some 134) _ = _
        simp only [Act.put, List.setIfInBounds_toArray, List.set_cons_zero, List.set_cons_succ, i64_w, i32_w]
        rfl
      refine one_ (i := 7) (N := some 135) #[true, true, true, true, true, true, true, true, false, false] rfl rfl (by kernel_rfl) (by decide) (fun K hK => ?_)
      refine Kd.R_append_step k24 (w0 := w0) w0.heap.size (by rfl) (.tmp 129) (.tmp 134) 22 24 (.agg #[.int .i64 0, .int .i64 0, .string ⟨#[]⟩, .slice none 0 0]) 56 rfl Try.underlying22 info24 rfl (by decide) (by omega) vL l x [.int .i64 x.f0, .int .i64 x.f1, .string x.f2, v3] (fun k_ => gb < k_) (fun k_ => w6.heap.size ≤ k_) rfl rfl (k24_mkM _ _ _ x R7.out) (fun k_ hk_ => ⟨Nat.lt_of_lt_of_le Z6.out hk_, fun e_ => by have := OWN.out k_ e_.symm; omega⟩) (fun k_ hk_ => Nat.lt_of_lt_of_le (blk_lt V7.out.v) hk_) L7.out V7.out.u.b V7.out.u.b.size (by have := HI.out; have := HM.out; omega) ?_
      intro v8 w8 ho hb hgr hat
      have V8 := Aside0.mk (V7.out.grown hgr (fun k hk_ => L7.out.1 k hk_) GVB.out GL.out)
      have L8 := Aside0.mk ho
      clear ho hb hgr hat V7 L7
      refine hK.out _ _ ((blk_cell V8.out.v 3).trans rfl) (fun hHeld => ?_)
      clear hK K
      refine norm_ (a' := ?_) ?_ ?_
      rotate_left
      · show Act.put _ (some 135) _ = _
        simp only [Act.put, List.setIfInBounds_toArray, List.set_cons_zero, List.set_cons_succ, i64_w, i32_w]
        rfl
      refine pure_ (i := 8) (N := some 136) (v := ?_) (a' := ?_) #[true, true, true, true, true, true, true, true, true, false] rfl rfl (by kernel_rfl) (fun _ _ _ h => h) (Or.inl ⟨by rfl, ?_⟩) ?_ ?_
      rotate_left
      · intro w'
        go_simp
        with_reducible rfl
      rotate_left
      · simp only [Act.put, List.setIfInBounds_toArray, List.set_cons_zero, List.set_cons_succ, i64_w, i32_w]
        rfl
      refine last_ (i := 9) (N := none) #[true, true, true, true, true, true, true, true, true, true] rfl rfl (by kernel_rfl) (by decide) (fun K hK => ?_)
      obtain ⟨A8, c8, rfl⟩ := Kd.R_slice L8.out
      have hcz8 := (blk_cell V8.out.v 3).trans rfl
      have hcf8 := blk_frozen V8.out.v 3
      refine skip_ (w1 := ?_) (by rfl) rfl ?_ ?_
      rotate_left
      · go_simp
        rfl
      refine hK.out _ _ ?_
      clear hK K
      refine done_ (by kernel_rfl) ?_
      have hlen : (l ++ [x]).length = l.length + 1 := by simp
      have V9 := Aside0.mk (V8.out.set 3 (.slice A8 (l.length + 1) c8))
      have L9 := Aside0.mk (show Kd.R k24 24 (w8.setCell ⟨gb, 3, none⟩ (.slice A8 (l.length + 1) c8)) w0.heap.size (fun k_ => gb < k_) (.slice A8 (l.length + 1) c8) (l ++ [x]) from by have h_ := Kd.R_far (p := ⟨gb, 3, none⟩) L8.out (fun k_ hk_ => Nat.ne_of_gt hk_) (.slice A8 (l.length + 1) c8); rwa [hlen] at h_)
      clear V8 L8
      simp only [hlen]
      generalize w8.setCell ⟨gb, 3, none⟩ (.slice A8 (l.length + 1) c8) = w9 at *
      go_wp2
      go_roundg (m - (i + 1))
      case measure => have := HI.out; have := HLT.out; omega
      case rel =>
        refine ⟨i + 1, l ++ [x], _, _, _, by rw [WI.out], ⟨by have := HLT.out; omega, by have := HI.out.2; simp; omega⟩, V9, L9, ⟨?_⟩⟩
        have h7 := HV7.out
        have hE := HE.out
        rw [MK.out, rdMany] at hE
        cases hr : rdVal n yr with
        | none =>
          rw [hr] at h7 hE
          exact .inr ⟨h7, hE⟩
        | some q =>
          obtain ⟨x', zs⟩ := q
          rw [hr] at h7 hE
          obtain ⟨rfl, rfl, rfl⟩ := h7
          refine .inl ⟨rfl, zs, rfl, (rdVal_suf _ _ _ _ hr).trans HS.out, ?_⟩
          rw [hE]
          simp only
          cases rdMany (rdVal n) (m - (i + 1)) zs with
          | none => rfl
          | some q => simp
    · have hi0 : decide (i < m) = false := decide_eq_false hi
      have HE2 := Aside0.mk (show rdMany (rdVal n) m ys = some (l, yr) by
        have := HE.out
        rw [show m - i = 0 by omega, rdMany] at this
        simpa using this)
      clear hi HE
      obtain ⟨AL, cL, rfl⟩ := Kd.R_slice RL.out
      have hu24 := Try.underlying24
      obtain ⟨Ag, cg, hbg, -, -, -⟩ := VR.out.u.r
      have gz2 := (blk_cell hbg 2).trans rfl
      clear hbg
      have vf0 := blk_frozen VR.out.u.v 0
      have vz0 := (blk_cell VR.out.u.v 0).trans rfl
      have bz0 := (blk_cell VR.out.v 0).trans rfl
      have vf1 := blk_frozen VR.out.u.v 1
      have vz1 := (blk_cell VR.out.u.v 1).trans rfl
      have bz1 := (blk_cell VR.out.v 1).trans rfl
      have vf2 := blk_frozen VR.out.u.v 2
      have vz2 := (blk_cell VR.out.u.v 2).trans rfl
      have bz2 := (blk_cell VR.out.v 2).trans rfl
      have vf3 := blk_frozen VR.out.u.v 3
      have vz3 := (blk_cell VR.out.u.v 3).trans rfl
      have bz3 := (blk_cell VR.out.v 3).trans rfl
      go_wp2
      have E := ((((VR.out.u.set (Nat.le_refl _) GV.out 0 (.int .i64 3)).set (Nat.le_refl _) GV.out 1 (.int .i64 0)).set (Nat.le_refl _) GV.out 2 (.string ⟨#[]⟩)).set (Nat.le_refl _) GV.out 3 (.slice AL l.length cL))
      have EL := Kd.R_mono (Kd.R_far (p := ⟨w.heap.size, 3, none⟩) (Kd.R_far (p := ⟨w.heap.size, 2, none⟩) (Kd.R_far (p := ⟨w.heap.size, 1, none⟩) (Kd.R_far (p := ⟨w.heap.size, 0, none⟩) RL.out (fun k_ hk_ => by have := GVB.out; simp at hk_ ⊢; omega) (.int .i64 3)) (fun k_ hk_ => by have := GVB.out; simp at hk_ ⊢; omega) (.int .i64 0)) (fun k_ hk_ => by have := GVB.out; simp at hk_ ⊢; omega) (.string ⟨#[]⟩)) (fun k_ hk_ => by have := GVB.out; simp at hk_ ⊢; omega) (.slice AL l.length cL)) (ok' := fun k_ => w.heap.size ≤ k_) (fun k_ hk_ => by have := GVB.out; omega)
      refine bodyPost_ret (results_cell_row rfl _ _ w.heap.size 24 #[.int .i64 3, .int .i64 0, .string ⟨#[]⟩, .slice AL l.length cL] (0, 0) _ rfl E.v hu24 rfl info24') rfl ?_
      rw [← HRES.out]; simp only [HE2.out]
      exact ⟨⟨⟨_, rfl, EL⟩, E.r⟩, E.b, E.k⟩
  · have HE2 := Aside0.mk hE
    clear HP hE
    by_cases hi : i < m
    · have hi0 : decide (i < m) = true := decide_eq_true hi
      clear hi
      obtain ⟨AL, cL, rfl⟩ := Kd.R_slice RL.out
      have hu24 := Try.underlying24
      obtain ⟨Ag, cg, hbg, -, -, -⟩ := VR.out.u.r
      have gz2 := (blk_cell hbg 2).trans rfl
      clear hbg
      have vf0 := blk_frozen VR.out.u.v 0
      have vz0 := (blk_cell VR.out.u.v 0).trans rfl
      have bz0 := (blk_cell VR.out.v 0).trans rfl
      have vf1 := blk_frozen VR.out.u.v 1
      have vz1 := (blk_cell VR.out.u.v 1).trans rfl
      have bz1 := (blk_cell VR.out.v 1).trans rfl
      have vf2 := blk_frozen VR.out.u.v 2
      have vz2 := (blk_cell VR.out.u.v 2).trans rfl
      have bz2 := (blk_cell VR.out.v 2).trans rfl
      have vf3 := blk_frozen VR.out.u.v 3
      have vz3 := (blk_cell VR.out.u.v 3).trans rfl
      have bz3 := (blk_cell VR.out.v 3).trans rfl
      go_wp2
      have E := ((((VR.out.u.set (Nat.le_refl _) GV.out 0 (.int .i64 3)).set (Nat.le_refl _) GV.out 1 (.int .i64 0)).set (Nat.le_refl _) GV.out 2 (.string ⟨#[]⟩)).set (Nat.le_refl _) GV.out 3 (.slice AL l.length cL))
      have EL := Kd.R_mono (Kd.R_far (p := ⟨w.heap.size, 3, none⟩) (Kd.R_far (p := ⟨w.heap.size, 2, none⟩) (Kd.R_far (p := ⟨w.heap.size, 1, none⟩) (Kd.R_far (p := ⟨w.heap.size, 0, none⟩) RL.out (fun k_ hk_ => by have := GVB.out; simp at hk_ ⊢; omega) (.int .i64 3)) (fun k_ hk_ => by have := GVB.out; simp at hk_ ⊢; omega) (.int .i64 0)) (fun k_ hk_ => by have := GVB.out; simp at hk_ ⊢; omega) (.string ⟨#[]⟩)) (fun k_ hk_ => by have := GVB.out; simp at hk_ ⊢; omega) (.slice AL l.length cL)) (ok' := fun k_ => w.heap.size ≤ k_) (fun k_ hk_ => by have := GVB.out; omega)
      refine bodyPost_ret (results_cell_row rfl _ _ w.heap.size 24 #[.int .i64 3, .int .i64 0, .string ⟨#[]⟩, .slice AL l.length cL] (0, 0) _ rfl E.v hu24 rfl info24') rfl ?_
      rw [← HRES.out]; simp only [HE2.out]
      exact ⟨⟨⟨⟨3, 0, ⟨#[]⟩, l⟩, _, rfl, EL⟩, _, E.r⟩, E.b, E.k⟩
    · have hi0 : decide (i < m) = false := decide_eq_false hi
      clear hi
      obtain ⟨AL, cL, rfl⟩ := Kd.R_slice RL.out
      have hu24 := Try.underlying24
      obtain ⟨Ag, cg, hbg, -, -, -⟩ := VR.out.u.r
      have gz2 := (blk_cell hbg 2).trans rfl
      clear hbg
      have vf0 := blk_frozen VR.out.u.v 0
      have vz0 := (blk_cell VR.out.u.v 0).trans rfl
      have bz0 := (blk_cell VR.out.v 0).trans rfl
      have vf1 := blk_frozen VR.out.u.v 1
      have vz1 := (blk_cell VR.out.u.v 1).trans rfl
      have bz1 := (blk_cell VR.out.v 1).trans rfl
      have vf2 := blk_frozen VR.out.u.v 2
      have vz2 := (blk_cell VR.out.u.v 2).trans rfl
      have bz2 := (blk_cell VR.out.v 2).trans rfl
      have vf3 := blk_frozen VR.out.u.v 3
      have vz3 := (blk_cell VR.out.u.v 3).trans rfl
      have bz3 := (blk_cell VR.out.v 3).trans rfl
      go_wp2
      have E := ((((VR.out.u.set (Nat.le_refl _) GV.out 0 (.int .i64 3)).set (Nat.le_refl _) GV.out 1 (.int .i64 0)).set (Nat.le_refl _) GV.out 2 (.string ⟨#[]⟩)).set (Nat.le_refl _) GV.out 3 (.slice AL l.length cL))
      have EL := Kd.R_mono (Kd.R_far (p := ⟨w.heap.size, 3, none⟩) (Kd.R_far (p := ⟨w.heap.size, 2, none⟩) (Kd.R_far (p := ⟨w.heap.size, 1, none⟩) (Kd.R_far (p := ⟨w.heap.size, 0, none⟩) RL.out (fun k_ hk_ => by have := GVB.out; simp at hk_ ⊢; omega) (.int .i64 3)) (fun k_ hk_ => by have := GVB.out; simp at hk_ ⊢; omega) (.int .i64 0)) (fun k_ hk_ => by have := GVB.out; simp at hk_ ⊢; omega) (.string ⟨#[]⟩)) (fun k_ hk_ => by have := GVB.out; simp at hk_ ⊢; omega) (.slice AL l.length cL)) (ok' := fun k_ => w.heap.size ≤ k_) (fun k_ hk_ => by have := GVB.out; omega)
      refine bodyPost_ret (results_cell_row rfl _ _ w.heap.size 24 #[.int .i64 3, .int .i64 0, .string ⟨#[]⟩, .slice AL l.length cL] (0, 0) _ rfl E.v hu24 rfl info24') rfl ?_
      rw [← HRES.out]; simp only [HE2.out]
      exact ⟨⟨⟨⟨3, 0, ⟨#[]⟩, l⟩, _, rfl, EL⟩, _, E.r⟩, E.b, E.k⟩
end Go.Proofs.Ytgnkjhppfenmaaa.Q
/- The reference's reader: every value. -/
namespace Go.Proofs.Ytgnkjhppfenmaaa.Q
open Go.RowKit Go.Proofs.YtgnkjhppfenmaaaW.PrintWords Go.Proofs.YtgnkjhppfenmaaaW.PrintLast Go.Proofs.YtgnkjhppfenmaaaW.PrintMore
set_option linter.unusedVariables false
set_option linter.unusedSimpArgs false
variable {w0 w W W1 : World} {g gv : Nat} {cs : Array Value} {B : List Int} {p p' : Int} {bad bad' : Bool}
theorem uval_len (d : Int) {xs : List Int} (hB : Below w0.heap.size w0 w) (h : IsS60 w0 w g B (atOf B (2 :: xs)) false) (hs : 2 :: xs <:+ B) (hl : B.length ≤ 1000000) (hy : areBytes B = true) (r0 : Option (S24 × List Int)) (hr0 : (match rdLen xs with | some (m, r2) => some (⟨2, 0, strOfNums (r2.take m), []⟩, r2.drop m) | none => none) = r0) :
    Calls Try.prog 30 #[.pointer (some ⟨g, 0, none⟩), .int .i64 d] w fun e w' => UEnds w0 w w' g B r0 e ∧ Below w0.heap.size w0 w' ∧ KeepBut w w' g none := by
  have hsx : xs <:+ B := (List.suffix_cons 2 xs).trans hs
  subst hr0
  cases hv : rdNum xs with
  | none =>
    have e : rdLen xs = none := by unfold rdLen; rw [hv]
    rw [e]
    exact uval_two_bad d hB h hs hl hy hv
  | some q =>
    obtain ⟨v, ys⟩ := q
    obtain ⟨u, rfl, -, hu⟩ := rdNum_back (bytes_suf hy hsx) hv
    have hsy : ys <:+ B := (rdNumA_suf _ _ _ _ _ hv).trans hsx
    by_cases hm : u ≤ ys.length
    · have e : rdLen xs = some (u, ys) := by unfold rdLen; rw [hv]; simp [hm]
      rw [e]
      exact uval_two_good d u hB h hs hsy hl hy hv hm
    · have e : rdLen xs = none := by unfold rdLen; rw [hv]; simp; omega
      rw [e]
      exact uval_two_long d u hu hB h hs hsy hl hy hv (by omega)
theorem uval_list0 {xs : List Int} (hB : Below w0.heap.size w0 w) (h : IsS60 w0 w g B (atOf B (3 :: xs)) false) (hs : 3 :: xs <:+ B) (hl : B.length ≤ 1000000) (hy : areBytes B = true) :
    Calls Try.prog 30 #[.pointer (some ⟨g, 0, none⟩), .int .i64 16] w fun e w' => UEnds w0 w w' g B none e ∧ Below w0.heap.size w0 w' ∧ KeepBut w w' g none := by
  have hsx : xs <:+ B := (List.suffix_cons 3 xs).trans hs
  cases hv : rdNum xs with
  | none => exact uval_three_bad 16 hB h hs hl hy hv
  | some q =>
    obtain ⟨v, ys⟩ := q
    obtain ⟨u, rfl, -, hu⟩ := rdNum_back (bytes_suf hy hsx) hv
    have hsy : ys <:+ B := (rdNumA_suf _ _ _ _ _ hv).trans hsx
    by_cases hm : u ≤ ys.length
    · exact uval_three_deep u hB h hs hsy hl hy hv hm
    · exact uval_three_long 16 u hu hB h hs hsy hl hy hv (by omega)
theorem uval_list {n : Nat} (IH : UValSays n) (d : Int) (hd0 : 0 ≤ d) (hd : d + (n + 1 : Nat) = 16) {xs : List Int} (hB : Below w0.heap.size w0 w) (h : IsS60 w0 w g B (atOf B (3 :: xs)) false) (hs : 3 :: xs <:+ B) (hl : B.length ≤ 1000000) (hy : areBytes B = true) (r0 : Option (S24 × List Int)) (hr0 : (match rdLen xs with | some (m, r2) => (match rdMany (rdVal n) m r2 with | some (l, r3) => some (⟨3, 0, ⟨#[]⟩, l⟩, r3) | none => none) | none => none) = r0) :
    Calls Try.prog 30 #[.pointer (some ⟨g, 0, none⟩), .int .i64 d] w fun e w' => UEnds w0 w w' g B r0 e ∧ Below w0.heap.size w0 w' ∧ KeepBut w w' g none := by
  have hsx : xs <:+ B := (List.suffix_cons 3 xs).trans hs
  cases hv : rdNum xs with
  | none =>
    have e : rdLen xs = none := by unfold rdLen; rw [hv]
    rw [e] at hr0
    subst hr0
    exact uval_three_bad d hB h hs hl hy hv
  | some q =>
    obtain ⟨v, ys⟩ := q
    obtain ⟨u, rfl, -, hu⟩ := rdNum_back (bytes_suf hy hsx) hv
    have hsy : ys <:+ B := (rdNumA_suf _ _ _ _ _ hv).trans hsx
    by_cases hm : u ≤ ys.length
    · have e : rdLen xs = some (u, ys) := by unfold rdLen; rw [hv]; simp [hm]
      rw [e] at hr0
      exact uval_three_good IH d hd0 hd u hB h hs hsy hl hy hv hm r0 hr0
    · have e : rdLen xs = none := by unfold rdLen; rw [hv]; simp; omega
      rw [e] at hr0
      subst hr0
      exact uval_three_long d u hu hB h hs hsy hl hy hv (by omega)
theorem uval_says (n : Nat) : UValSays n := by
  induction n with
  | zero =>
    intro d w0 w g B xs hd0 hd hB hR hs hl hy
    cases xs with
    | nil => exact uval_end d hB hR
    | cons k r =>
      by_cases h1 : k = 1
      · subst h1
        rw [show rdVal 0 (1 :: r) = _ from by rw [rdVal, if_pos rfl]]
        exact uval_one d hB hR hs hl hy
      by_cases h2 : k = 2
      · subst h2
        rw [show rdVal 0 (2 :: r) = _ from by rw [rdVal, if_neg (by decide), if_pos rfl]]
        exact uval_len d hB hR hs hl hy _ rfl
      by_cases h3 : k = 3
      · subst h3
        obtain rfl : d = 16 := by omega
        rw [show rdVal 0 (3 :: r) = none from by rw [rdVal, if_neg (by decide), if_neg (by decide), if_pos rfl]]
        exact uval_list0 hB hR hs hl hy
      · rw [show rdVal 0 (k :: r) = none from by rw [rdVal, if_neg h1, if_neg h2, if_neg h3]]
        exact uval_other d k hB hR hs hl h1 h2 h3
  | succ n ih =>
    intro d w0 w g B xs hd0 hd hB hR hs hl hy
    cases xs with
    | nil => exact uval_end d hB hR
    | cons k r =>
      by_cases h1 : k = 1
      · subst h1
        rw [show rdVal (n + 1) (1 :: r) = _ from by rw [rdVal, if_pos rfl]]
        exact uval_one d hB hR hs hl hy
      by_cases h2 : k = 2
      · subst h2
        rw [show rdVal (n + 1) (2 :: r) = _ from by rw [rdVal, if_neg (by decide), if_pos rfl]]
        exact uval_len d hB hR hs hl hy _ rfl
      by_cases h3 : k = 3
      · subst h3
        rw [show rdVal (n + 1) (3 :: r) = _ from by rw [rdVal, if_neg (by decide), if_neg (by decide), if_pos rfl]]
        exact uval_list ih d hd0 hd hB hR hs hl hy _ rfl
      · rw [show rdVal (n + 1) (k :: r) = none from by rw [rdVal, if_neg h1, if_neg h2, if_neg h3]]
        exact uval_other d k hB hR hs hl h1 h2 h3
end Go.Proofs.Ytgnkjhppfenmaaa.Q
/- The reference's Decode. -/
namespace Go.Proofs.Ytgnkjhppfenmaaa.Q
open Go.RowKit Go.Proofs.YtgnkjhppfenmaaaW.PrintWords Go.Proofs.YtgnkjhppfenmaaaW.PrintLast Go.Proofs.YtgnkjhppfenmaaaW.PrintMore
set_option linter.unusedVariables false
set_option linter.unusedSimpArgs false
def sizarref01_Decode.f (l0 : List Int) : Option (Int × Int × ByteArray × (List (S24)) × Int) :=
  if l0.length ≤ 4000 ∧ areBytes l0 = true then (match decV l0 with | some v => some (v.f0, v.f1, v.f2, v.f3, 0) | none => some (0, 0, ⟨#[]⟩, [], 10)) else none
variable {w0 w W W1 : World} {g gv : Nat} {cs : Array Value} {B : List Int} {p p' : Int} {bad bad' : Bool}
/-- the result's memory, the reader's, and the value's -/
structure RS (w W : World) (cs1 cs2 : Array Value) (gb : Nat) (B : List Int) (p : Int) (bad : Bool) : Prop where
  r : IsS60 w W (w.heap.size + 1) B p bad
  b : Below w.heap.size w W
  v1 : W.heap[w.heap.size]? = some (.cells cs1 24 (0, 0))
  v2 : W.heap[gb]? = some (.cells cs2 24 (0, 0))
  lo : w.heap.size < gb
variable {cs1 cs2 : Array Value} {gb : Nat}
theorem RS.set1 (h : RS w W cs1 cs2 gb B p bad) (j : Nat) (u : Value) : RS w (W.setCell ⟨w.heap.size, j, none⟩ u) (cs1.setIfInBounds j u) cs2 gb B p bad :=
  ⟨h.r.far (by simp) u, h.b.setCell (Nat.le_refl _) u, blk_set h.v1 j u, blk_far h.v2 (by have := h.lo; simp; omega) u, h.lo⟩
theorem RS.below (h : RS w W cs1 cs2 gb B p bad) (hb : Below W.heap.size W W1) : RS w W1 cs1 cs2 gb B p bad :=
  ⟨h.r.below hb, below_step h.b hb, blk_below h.v1 hb, blk_below h.v2 hb, h.lo⟩
theorem RS.drewN (h : RS w W cs1 cs2 gb B p bad) (n : Nat) : RS w (W.drewN n) cs1 cs2 gb B p bad := h.below (pw_below_drewN (Below.refl _ _) n)
theorem RS.drew (h : RS w W cs1 cs2 gb B p bad) : RS w W.drew cs1 cs2 gb B p bad := h.below (below_drew1 (Below.refl _ _))
set_option maxHeartbeats 8000000 in
set_option maxRecDepth 100000 in
theorem ref_bad (A0 : Option Addr) (c0 : Nat) (l0 : List Int) (w : World) (hr0 : Kd.C (Kd.int .u8) w A0 l0.length l0) (hc0 : l0.length ≤ c0) (hl : l0.length ≤ 4000) (hy : areBytes l0 = true) (h : decV l0 = none) :
    Calls Try.prog 15 #[.slice A0 l0.length c0] w fun e w' => ∃ v3_ : Value, e = .returned (.tuple #[.agg #[.int .i64 0, .int .i64 0, .string ⟨#[]⟩, v3_], .int .i64 10]) ∧ Kd.R k24 24 w' w.heap.size (fun _ => True) v3_ [] ∧ Below w.heap.size w w' := by
  have H := Aside0.mk h
  have HL := Aside0.mk hl
  have HC := Aside0.mk hr0
  have HK := Aside0.mk hc0
  have HY := Aside0.mk hy
  clear h hl hr0 hc0 hy
  have R2 := Aside0.mk (show IsS60 w ((w.alloc (.cells #[.int .i64 0, .int .i64 0, .string ⟨#[]⟩, .slice none 0 0] 24)).alloc (.cells #[.slice A0 l0.length c0, .int .i64 0, .bool false] 60)) (w.heap.size + 1) l0 (atOf l0 l0) false from by
    have h1 := IsS60.new w (w.alloc (.cells #[.int .i64 0, .int .i64 0, .string ⟨#[]⟩, .slice none 0 0] 24)) A0 c0 l0 0 false (below_alloc (Below.refl _ _) _) HC.out HK.out
    have h2 : atOf l0 l0 = 0 := by unfold atOf; omega
    rw [h2]
    simpa using h1)
  have B2 := Aside0.mk (show Below w.heap.size w ((w.alloc (.cells #[.int .i64 0, .int .i64 0, .string ⟨#[]⟩, .slice none 0 0] 24)).alloc (.cells #[.slice A0 l0.length c0, .int .i64 0, .bool false] 60)) from below_alloc (below_alloc (Below.refl _ _) _) _)
  have V2 := Aside0.mk (show ((w.alloc (.cells #[.int .i64 0, .int .i64 0, .string ⟨#[]⟩, .slice none 0 0] 24)).alloc (.cells #[.slice A0 l0.length c0, .int .i64 0, .bool false] 60)).heap[w.heap.size]? = some (.cells #[.int .i64 0, .int .i64 0, .string ⟨#[]⟩, .slice none 0 0] 24 (0, 0)) from blk_alloc (blk_new _ _) _)
  go_enter Try.func15, Try.ntmps15
  go_upto_region 3 with (go_at_call 30; (refine (uval_says 16 0 w _ (w.heap.size + 1) l0 l0 (by omega) (by omega) B2.out R2.out (List.suffix_refl _) (by have := HL.out; omega) HY.out).mono ?_); rintro e w3 ⟨he, hb, hk⟩; obtain ⟨x, v3, p3, bad3, rfl, R3, hr, hres⟩ := UEnds.all he; obtain ⟨A3, c3, rfl⟩ := Kd.R_slice R3; have HR := Aside0.mk hres; have K4 := Aside0.mk (show RS w (w3.alloc (.cells #[.int .i64 x.f0, .int .i64 x.f1, .string x.f2, .slice A3 x.f3.length c3] 24)) #[.int .i64 0, .int .i64 0, .string ⟨#[]⟩, .slice none 0 0] #[.int .i64 x.f0, .int .i64 x.f1, .string x.f2, .slice A3 x.f3.length c3] w3.heap.size l0 p3 bad3 from ⟨hr.alloc _, hb.alloc hb.size _, blk_alloc (hk.blk V2.out (by omega) (by simp)) _, blk_new _ _, by have := hr.lt; omega⟩); have L3 := Aside0.mk (Kd.R_alloc R3 (.cells #[.int .i64 x.f0, .int .i64 x.f1, .string x.f2, .slice A3 x.f3.length c3] 24)); clear he hb hk hr R3 hres)
  clear R2 B2 V2
  generalize w3.alloc (.cells #[.int .i64 x.f0, .int .i64 x.f1, .string x.f2, .slice A3 x.f3.length c3] 24) = w4 at *
  have HD := H.out
  have hu24 := Try.underlying24
  have hbd : bad3 = true ∨ (bad3 = false ∧ ¬ p3 = (l0.length : Int)) := by
    cases hv : rdVal 16 l0 with
    | none => exact .inl (by have := HR.out; rw [hv] at this; exact this)
    | some q =>
      obtain ⟨x', ys⟩ := q
      have h1 := HR.out
      rw [hv] at h1
      obtain ⟨-, h2, h3⟩ := h1
      refine .inr ⟨h3, ?_⟩
      rw [h2]
      cases ys with
      | nil => rw [decV, hv] at HD; cases HD
      | cons y ys => unfold atOf; simp; omega
  clear HD HR
  obtain ⟨Ag, cg, hbg, -, -, -⟩ := K4.out.r
  have gz1 := (blk_cell hbg 1).trans rfl
  have gz2 := (blk_cell hbg 2).trans rfl
  clear hbg
  rcases hbd with rfl | ⟨rfl, hp⟩
  · go_quiet (fail)
    have K5 := Aside0.mk (K4.out.drewN nq)
    clear K4 gz1 gz2
    generalize w4.drewN nq = w5 at *
    have vz0 := (blk_cell K5.out.v1 0).trans rfl
    have vf0 := blk_frozen K5.out.v1 0
    have vz1 := (blk_cell K5.out.v1 1).trans rfl
    have vf1 := blk_frozen K5.out.v1 1
    have vz2 := (blk_cell K5.out.v1 2).trans rfl
    have vf2 := blk_frozen K5.out.v1 2
    have vz3 := (blk_cell K5.out.v1 3).trans rfl
    have vf3 := blk_frozen K5.out.v1 3
    go_wp2
    have E := (((K5.out.set1 0 (.int .i64 0)).set1 1 (.int .i64 0)).set1 2 (.string ⟨#[]⟩)).set1 3 (.slice none 0 0)
    refine bodyPost_ret (results_ct rfl _ _ w.heap.size 24 #[.int .i64 0, .int .i64 0, .string ⟨#[]⟩, .slice none 0 0] (0, 0) _ rfl E.v1 hu24 rfl info24') rfl ?_
    exact ⟨_, rfl, Kd.R_nil _ _ _ _ _, E.b⟩
  · have hpf : (p3 != (l0.length : Int)) = true := bne_iff_ne.mpr hp
    clear hp
    go_quiet (fail)
    have K5 := Aside0.mk (K4.out.drewN nq)
    clear K4 gz1 gz2
    generalize w4.drewN nq = w5 at *
    have vz0 := (blk_cell K5.out.v1 0).trans rfl
    have vf0 := blk_frozen K5.out.v1 0
    have vz1 := (blk_cell K5.out.v1 1).trans rfl
    have vf1 := blk_frozen K5.out.v1 1
    have vz2 := (blk_cell K5.out.v1 2).trans rfl
    have vf2 := blk_frozen K5.out.v1 2
    have vz3 := (blk_cell K5.out.v1 3).trans rfl
    have vf3 := blk_frozen K5.out.v1 3
    go_wp2
    have E := (((K5.out.set1 0 (.int .i64 0)).set1 1 (.int .i64 0)).set1 2 (.string ⟨#[]⟩)).set1 3 (.slice none 0 0)
    refine bodyPost_ret (results_ct rfl _ _ w.heap.size 24 #[.int .i64 0, .int .i64 0, .string ⟨#[]⟩, .slice none 0 0] (0, 0) _ rfl E.v1 hu24 rfl info24') rfl ?_
    exact ⟨_, rfl, Kd.R_nil _ _ _ _ _, E.b⟩
set_option maxHeartbeats 8000000 in
set_option maxRecDepth 100000 in
theorem ref_good (A0 : Option Addr) (c0 : Nat) (l0 : List Int) (x0 : S24) (w : World) (hr0 : Kd.C (Kd.int .u8) w A0 l0.length l0) (hc0 : l0.length ≤ c0) (hl : l0.length ≤ 4000) (hy : areBytes l0 = true) (h : decV l0 = some x0) :
    Calls Try.prog 15 #[.slice A0 l0.length c0] w fun e w' => ∃ v3_ : Value, e = .returned (.tuple #[.agg #[.int .i64 x0.f0, .int .i64 x0.f1, .string x0.f2, v3_], .int .i64 0]) ∧ Kd.R k24 24 w' w.heap.size (fun _ => True) v3_ x0.f3 ∧ Below w.heap.size w w' := by
  obtain ⟨hen, hck, hwf⟩ := decV_back hy (by omega) h
  obtain ⟨kc, hkc⟩ := check_ev x0 hwf
  have HCK := Aside0.mk ((hkc kc (Nat.le_refl _)).trans (by rw [hck]))
  have hfo : (formedV x0).2 = true := by
    unfold checkV at hck
    split at hck
    · assumption
    · cases hck
  obtain ⟨ke, hke⟩ := encode_ev x0 hwf hfo (by rw [hen]; omega)
  have HEN := Aside0.mk ((hke ke (Nat.le_refl _)).trans (by rw [hen]))
  clear hkc hke hen hck hwf hfo
  have H := Aside0.mk h
  have HL := Aside0.mk hl
  have HC := Aside0.mk hr0
  have HK := Aside0.mk hc0
  have HY := Aside0.mk hy
  clear h hl hr0 hc0 hy
  have R2 := Aside0.mk (show IsS60 w ((w.alloc (.cells #[.int .i64 0, .int .i64 0, .string ⟨#[]⟩, .slice none 0 0] 24)).alloc (.cells #[.slice A0 l0.length c0, .int .i64 0, .bool false] 60)) (w.heap.size + 1) l0 (atOf l0 l0) false from by
    have h1 := IsS60.new w (w.alloc (.cells #[.int .i64 0, .int .i64 0, .string ⟨#[]⟩, .slice none 0 0] 24)) A0 c0 l0 0 false (below_alloc (Below.refl _ _) _) HC.out HK.out
    have h2 : atOf l0 l0 = 0 := by unfold atOf; omega
    rw [h2]
    simpa using h1)
  have B2 := Aside0.mk (show Below w.heap.size w ((w.alloc (.cells #[.int .i64 0, .int .i64 0, .string ⟨#[]⟩, .slice none 0 0] 24)).alloc (.cells #[.slice A0 l0.length c0, .int .i64 0, .bool false] 60)) from below_alloc (below_alloc (Below.refl _ _) _) _)
  have V2 := Aside0.mk (show ((w.alloc (.cells #[.int .i64 0, .int .i64 0, .string ⟨#[]⟩, .slice none 0 0] 24)).alloc (.cells #[.slice A0 l0.length c0, .int .i64 0, .bool false] 60)).heap[w.heap.size]? = some (.cells #[.int .i64 0, .int .i64 0, .string ⟨#[]⟩, .slice none 0 0] 24 (0, 0)) from blk_alloc (blk_new _ _) _)
  go_enter Try.func15, Try.ntmps15
  go_upto_region 3 with (go_at_call 30; (refine (uval_says 16 0 w _ (w.heap.size + 1) l0 l0 (by omega) (by omega) B2.out R2.out (List.suffix_refl _) (by have := HL.out; omega) HY.out).mono ?_); rintro e w3 ⟨he, hb, hk⟩; obtain ⟨x, v3, p3, bad3, rfl, R3, hr, hres⟩ := UEnds.all he; obtain ⟨A3, c3, rfl⟩ := Kd.R_slice R3; have HR := Aside0.mk hres; have K4 := Aside0.mk (show RS w (w3.alloc (.cells #[.int .i64 x.f0, .int .i64 x.f1, .string x.f2, .slice A3 x.f3.length c3] 24)) #[.int .i64 0, .int .i64 0, .string ⟨#[]⟩, .slice none 0 0] #[.int .i64 x.f0, .int .i64 x.f1, .string x.f2, .slice A3 x.f3.length c3] w3.heap.size l0 p3 bad3 from ⟨hr.alloc _, hb.alloc hb.size _, blk_alloc (hk.blk V2.out (by omega) (by simp)) _, blk_new _ _, by have := hr.lt; omega⟩); have L3 := Aside0.mk (Kd.R_alloc R3 (.cells #[.int .i64 x.f0, .int .i64 x.f1, .string x.f2, .slice A3 x.f3.length c3] 24)); clear he hb hk hr R3 hres)
  clear R2 B2 V2
  generalize w3.alloc (.cells #[.int .i64 x.f0, .int .i64 x.f1, .string x.f2, .slice A3 x.f3.length c3] 24) = w4 at *
  have hu24 := Try.underlying24
  have hbd : bad3 = false ∧ p3 = (l0.length : Int) ∧ x = x0 := by
    have HD := H.out
    rw [decV] at HD
    split at HD
    · next v hv =>
      cases HD
      have h1 := HR.out
      rw [hv] at h1
      obtain ⟨rfl, h2, h3⟩ := h1
      exact ⟨h3, by rw [h2]; unfold atOf; simp, rfl⟩
    · cases HD
  obtain ⟨rfl, rfl, rfl⟩ := hbd
  clear HR
  generalize w3.heap.size = gb at *
  replace K4 := Aside0.mk K4.out.drew
  replace L3 := Aside0.mk (Kd.R_drew L3.out)
  obtain ⟨Ag, cg, hbg, -, -, -⟩ := K4.out.r
  have gz1 := (blk_cell hbg 1).trans rfl
  have gz2 := (blk_cell hbg 2).trans rfl
  have bz0 := (blk_cell K4.out.v2 0).trans rfl
  have bz1 := (blk_cell K4.out.v2 1).trans rfl
  have bz2 := (blk_cell K4.out.v2 2).trans rfl
  have bz3 := (blk_cell K4.out.v2 3).trans rfl
  clear hbg
  have K5 := K4
  have L5 := L3
  clear K4 L3
  refine start_ (n := 26) (S := fun w' => w'.cell? ⟨w.heap.size + 1, 1, none⟩ = some (.int .i64 (l0.length : Int)) ∧ w'.cell? ⟨w.heap.size + 1, 2, none⟩ = some (.bool false) ∧ w'.cell? ⟨gb, 0, none⟩ = some (.int .i64 x.f0) ∧ w'.cell? ⟨gb, 1, none⟩ = some (.int .i64 x.f1) ∧ w'.cell? ⟨gb, 2, none⟩ = some (.string x.f2) ∧ w'.cell? ⟨gb, 3, none⟩ = some (.slice A3 x.f3.length c3) ∧ (Kd.int .u8).C w' A0 l0.length l0) (ds := []) #[false, false, false, false, false, false, false, false, false, false, false, false, false, false, false, false, false, false, false, false, false, false, false, false, false, false] (by kernel_rfl) rfl rfl ⟨gz1, gz2, bz0, bz1, bz2, bz3, Kd.C_below HC.out K5.out.b⟩ (fun hHeld => ?_)
  generalize w4.drew = w5 at *
  refine pure_ (i := 0) (N := some 11) (v := ?_) (a' := ?_) #[true, false, false, false, false, false, false, false, false, false, false, false, false, false, false, false, false, false, false, false, false, false, false, false, false, false] rfl rfl (by kernel_rfl) (fun _ _ _ h => h) (Or.inl ⟨by rfl, ?_⟩) ?_ ?_
  rotate_left
  · intro w'
    go_simp
    with_reducible rfl
  rotate_left
  · simp only [Act.put, List.setIfInBounds_toArray, List.set_cons_zero, List.set_cons_succ, i64_w, i32_w]
    rfl
  refine pure_ (i := 1) (N := some 12) (v := ?_) (a' := ?_) #[true, true, false, false, false, false, false, false, false, false, false, false, false, false, false, false, false, false, false, false, false, false, false, false, false, false] rfl rfl (by kernel_rfl) (fun _ _ _ h => h) (Or.inl ⟨by rfl, ?_⟩) ?_ ?_
  rotate_left
  · intro w'
    go_simp
    with_reducible rfl
  rotate_left
  · simp only [Act.put, List.setIfInBounds_toArray, List.set_cons_zero, List.set_cons_succ, i64_w, i32_w]
    rfl
  refine pure_ (i := 2) (N := some 13) (v := ?_) (a' := ?_) #[true, true, true, false, false, false, false, false, false, false, false, false, false, false, false, false, false, false, false, false, false, false, false, false, false, false] rfl rfl (by kernel_rfl) (fun _ _ _ h => h) (Or.inl ⟨by rfl, ?_⟩) ?_ ?_
  rotate_left
  · intro w'
    go_simp
    with_reducible rfl
  rotate_left
  · simp only [Act.put, List.setIfInBounds_toArray, List.set_cons_zero, List.set_cons_succ, i64_w, i32_w]
    rfl
  refine take_ (i := 3) (N := some 14) (v := ?_) (a' := ?_) #[true, true, true, true, false, false, false, false, false, false, false, false, false, false, false, false, false, false, false, false, false, false, false, false, false, false] rfl rfl (by kernel_rfl) (fun _ _ _ h => h) (Or.inl ⟨by rfl, ?_⟩) hHeld ?_ ?_
  rotate_left
  · rintro w' ⟨s0, s1, s2, s3, s4, s5, s6⟩
    go_simp
    with_reducible rfl
  rotate_left
  · simp only [Act.put, List.setIfInBounds_toArray, List.set_cons_zero, List.set_cons_succ, i64_w, i32_w]
    rfl
  refine pure_ (i := 4) (N := some 15) (v := ?_) (a' := ?_) #[true, true, true, true, true, false, false, false, false, false, false, false, false, false, false, false, false, false, false, false, false, false, false, false, false, false] rfl rfl (by kernel_rfl) (fun _ _ _ h => h) (Or.inl ⟨by rfl, ?_⟩) ?_ ?_
  rotate_left
  · intro w'
    go_simp
    with_reducible rfl
  rotate_left
  · simp only [Act.put, List.setIfInBounds_toArray, List.set_cons_zero, List.set_cons_succ, i64_w, i32_w]
    rfl
  refine pure_ (i := 5) (N := some 16) (v := ?_) (a' := ?_) #[true, true, true, true, true, true, false, false, false, false, false, false, false, false, false, false, false, false, false, false, false, false, false, false, false, false] rfl rfl (by kernel_rfl) (fun _ _ _ h => h) (Or.inl ⟨by rfl, ?_⟩) ?_ ?_
  rotate_left
  · intro w'
    go_simp
    with_reducible rfl
  rotate_left
  · simp only [Act.put, List.setIfInBounds_toArray, List.set_cons_zero, List.set_cons_succ, i64_w, i32_w]
    rfl
  refine pure_ (i := 6) (N := some 17) (v := ?_) (a' := ?_) #[true, true, true, true, true, true, true, false, false, false, false, false, false, false, false, false, false, false, false, false, false, false, false, false, false, false] rfl rfl (by kernel_rfl) (fun _ _ _ h => h) (Or.inl ⟨by rfl, ?_⟩) ?_ ?_
  rotate_left
  · intro w'
    go_simp
    with_reducible rfl
  rotate_left
  · simp only [Act.put, List.setIfInBounds_toArray, List.set_cons_zero, List.set_cons_succ, i64_w, i32_w]
    rfl
  refine pure_ (i := 7) (N := some 18) (v := ?_) (a' := ?_) #[true, true, true, true, true, true, true, true, false, false, false, false, false, false, false, false, false, false, false, false, false, false, false, false, false, false] rfl rfl (by kernel_rfl) (fun _ _ _ h => h) (Or.inl ⟨by rfl, ?_⟩) ?_ ?_
  rotate_left
  · intro w'
    go_simp
    with_reducible rfl
  rotate_left
  · simp only [Act.put, List.setIfInBounds_toArray, List.set_cons_zero, List.set_cons_succ, i64_w, i32_w]
    rfl
  refine take_ (i := 8) (N := some 19) (v := ?_) (a' := ?_) #[true, true, true, true, true, true, true, true, true, false, false, false, false, false, false, false, false, false, false, false, false, false, false, false, false, false] rfl rfl (by kernel_rfl) (fun _ _ _ h => h) (Or.inl ⟨by rfl, ?_⟩) hHeld ?_ ?_
  rotate_left
  · rintro w' ⟨s0, s1, s2, s3, s4, s5, s6⟩
    go_simp
    with_reducible rfl
  rotate_left
  · simp only [Act.put, List.setIfInBounds_toArray, List.set_cons_zero, List.set_cons_succ, i64_w, i32_w]
    rfl
  refine pure_ (i := 9) (N := some 20) (v := ?_) (a' := ?_) #[true, true, true, true, true, true, true, true, true, true, false, false, false, false, false, false, false, false, false, false, false, false, false, false, false, false] rfl rfl (by kernel_rfl) (fun _ _ _ h => h) (Or.inl ⟨by rfl, ?_⟩) ?_ ?_
  rotate_left
  · intro w'
    go_simp
    with_reducible rfl
  rotate_left
  · simp only [Act.put, List.setIfInBounds_toArray, List.set_cons_zero, List.set_cons_succ, i64_w, i32_w]
    rfl
  refine pure_ (i := 10) (N := some 21) (v := ?_) (a' := ?_) #[true, true, true, true, true, true, true, true, true, true, true, false, false, false, false, false, false, false, false, false, false, false, false, false, false, false] rfl rfl (by kernel_rfl) (fun _ _ _ h => h) (Or.inl ⟨by rfl, ?_⟩) ?_ ?_
  rotate_left
  · intro w'
    go_simp
    with_reducible rfl
  rotate_left
  · simp only [Act.put, List.setIfInBounds_toArray, List.set_cons_zero, List.set_cons_succ, i64_w, i32_w]
    rfl
  refine pure_ (i := 11) (N := some 22) (v := ?_) (a' := ?_) #[true, true, true, true, true, true, true, true, true, true, true, true, false, false, false, false, false, false, false, false, false, false, false, false, false, false] rfl rfl (by kernel_rfl) (fun _ _ _ h => h) (Or.inl ⟨by rfl, ?_⟩) ?_ ?_
  rotate_left
  · intro w'
    go_simp
    with_reducible rfl
  rotate_left
  · simp only [Act.put, List.setIfInBounds_toArray, List.set_cons_zero, List.set_cons_succ, i64_w, i32_w]
    rfl
  refine pure_ (i := 12) (N := some 23) (v := ?_) (a' := ?_) #[true, true, true, true, true, true, true, true, true, true, true, true, true, false, false, false, false, false, false, false, false, false, false, false, false, false] rfl rfl (by kernel_rfl) (fun _ _ _ h => h) (Or.inl ⟨by rfl, ?_⟩) ?_ ?_
  rotate_left
  · intro w'
    go_simp
    with_reducible rfl
  rotate_left
  · simp only [Act.put, List.setIfInBounds_toArray, List.set_cons_zero, List.set_cons_succ, i64_w, i32_w]
    rfl
  refine pure_ (i := 13) (N := some 24) (v := ?_) (a' := ?_) #[true, true, true, true, true, true, true, true, true, true, true, true, true, true, false, false, false, false, false, false, false, false, false, false, false, false] rfl rfl (by kernel_rfl) (fun _ _ _ h => h) (Or.inl ⟨by rfl, ?_⟩) ?_ ?_
  rotate_left
  · intro w'
    go_simp
    with_reducible rfl
  rotate_left
  · simp only [Act.put, List.setIfInBounds_toArray, List.set_cons_zero, List.set_cons_succ, i64_w, i32_w]
    rfl
  refine take_ (i := 14) (N := some 25) (v := ?_) (a' := ?_) #[true, true, true, true, true, true, true, true, true, true, true, true, true, true, true, false, false, false, false, false, false, false, false, false, false, false] rfl rfl (by kernel_rfl) (fun _ _ _ h => h) (Or.inl ⟨by rfl, ?_⟩) hHeld ?_ ?_
  rotate_left
  · rintro w' ⟨s0, s1, s2, s3, s4, s5, s6⟩
    go_simp
    with_reducible rfl
  rotate_left
  · simp only [Act.put, List.setIfInBounds_toArray, List.set_cons_zero, List.set_cons_succ, i64_w, i32_w]
    rfl
  refine one_ (i := 15) (N := some 26) #[true, true, true, true, true, true, true, true, true, true, true, true, true, true, true, true, false, false, false, false, false, false, false, false, false, false] rfl rfl (by kernel_rfl) (by decide) (fun K hK => ?_)
  refine goes_ Try.func13 (by kernel_rfl) rfl #[.agg #[.int .i64 x.f0, .int .i64 x.f1, .string x.f2, .slice A3 x.f3.length c3]] (by rfl) rfl rfl (by (try simp only [List.map_toArray, List.map_cons, List.map_nil]); first | done | rfl) ?_
  refine (sizarref01_Check.calls kc x.f0 x.f1 x.f2 A3 c3 x.f3 0 _ (Kd.R_reads' L5.out).2.2 (Kd.R_reads' L5.out).2.1 HCK.out).mono ?_
  rintro e w6 ⟨rfl, hb⟩
  refine ⟨_, rfl, ?_⟩
  have K6 := Aside0.mk (K5.out.below hb)
  have L6 := Aside0.mk (Kd.R_below L5.out hb)
  obtain ⟨Ag6, cg6, hbg6, -, -, -⟩ := K6.out.r
  refine hK.out _ _ ⟨(blk_cell hbg6 1).trans rfl, (blk_cell hbg6 2).trans rfl, (blk_cell K6.out.v2 0).trans rfl, (blk_cell K6.out.v2 1).trans rfl, (blk_cell K6.out.v2 2).trans rfl, (blk_cell K6.out.v2 3).trans rfl, Kd.C_below HC.out K6.out.b⟩ (fun hHeld => ?_)
  clear hK K
  refine norm_ (a' := ?_) ?_ ?_
  rotate_left
  · show Act.put _ (some 26) _ = _
    simp only [Act.put, List.setIfInBounds_toArray, List.set_cons_zero, List.set_cons_succ, i64_w, i32_w]
    rfl
  refine pure_ (i := 16) (N := some 27) (v := ?_) (a' := ?_) #[true, true, true, true, true, true, true, true, true, true, true, true, true, true, true, true, true, false, false, false, false, false, false, false, false, false] rfl rfl (by kernel_rfl) (fun _ _ _ h => h) (Or.inl ⟨by rfl, ?_⟩) ?_ ?_
  rotate_left
  · intro w'
    go_simp
    with_reducible rfl
  rotate_left
  · simp only [Act.put, List.setIfInBounds_toArray, List.set_cons_zero, List.set_cons_succ, i64_w, i32_w]
    rfl
  refine pure_ (i := 17) (N := some 28) (v := ?_) (a' := ?_) #[true, true, true, true, true, true, true, true, true, true, true, true, true, true, true, true, true, true, false, false, false, false, false, false, false, false] rfl rfl (by kernel_rfl) (fun _ _ _ h => h) (Or.inl ⟨by rfl, ?_⟩) ?_ ?_
  rotate_left
  · intro w'
    go_simp
    with_reducible rfl
  rotate_left
  · simp only [Act.put, List.setIfInBounds_toArray, List.set_cons_zero, List.set_cons_succ, i64_w, i32_w]
    rfl
  refine pure_ (i := 18) (N := some 29) (v := ?_) (a' := ?_) #[true, true, true, true, true, true, true, true, true, true, true, true, true, true, true, true, true, true, true, false, false, false, false, false, false, false] rfl rfl (by kernel_rfl) (fun _ _ _ h => h) (Or.inl ⟨by rfl, ?_⟩) ?_ ?_
  rotate_left
  · intro w'
    go_simp
    with_reducible rfl
  rotate_left
  · simp only [Act.put, List.setIfInBounds_toArray, List.set_cons_zero, List.set_cons_succ, i64_w, i32_w]
    rfl
  refine take_ (i := 19) (N := some 30) (v := ?_) (a' := ?_) #[true, true, true, true, true, true, true, true, true, true, true, true, true, true, true, true, true, true, true, true, false, false, false, false, false, false] rfl rfl (by kernel_rfl) (fun _ _ _ h => h) (Or.inl ⟨by rfl, ?_⟩) hHeld ?_ ?_
  rotate_left
  · rintro w' ⟨s0, s1, s2, s3, s4, s5, s6⟩
    go_simp
    with_reducible rfl
  rotate_left
  · simp only [Act.put, List.setIfInBounds_toArray, List.set_cons_zero, List.set_cons_succ, i64_w, i32_w]
    rfl
  refine pure_ (i := 22) (N := some 33) (v := ?_) (a' := ?_) #[true, true, true, true, true, true, true, true, true, true, true, true, true, true, true, true, true, true, true, true, false, false, true, false, false, false] rfl rfl (by kernel_rfl) (fun _ _ _ h => h) (Or.inl ⟨by rfl, ?_⟩) ?_ ?_
  rotate_left
  · intro w'
    go_simp
    with_reducible rfl
  rotate_left
  · simp only [Act.put, List.setIfInBounds_toArray, List.set_cons_zero, List.set_cons_succ, i64_w, i32_w]
    rfl
  refine take_ (i := 23) (N := some 34) (v := ?_) (a' := ?_) #[true, true, true, true, true, true, true, true, true, true, true, true, true, true, true, true, true, true, true, true, false, false, true, true, false, false] rfl rfl (by kernel_rfl) (fun _ _ _ h => h) (Or.inl ⟨by rfl, ?_⟩) hHeld ?_ ?_
  rotate_left
  · rintro w' ⟨s0, s1, s2, s3, s4, s5, s6⟩
    have hcv := Kd.C_string (P := Try.prog) (c := c0) Try.underlying27 Try.underlying5 Try.underlying9 s6
    go_simp
    with_reducible rfl
  rotate_left
  · simp only [Act.put, List.setIfInBounds_toArray, List.set_cons_zero, List.set_cons_succ, i64_w, i32_w]
    rfl
  refine one_ (i := 20) (N := some 31) #[true, true, true, true, true, true, true, true, true, true, true, true, true, true, true, true, true, true, true, true, true, false, true, true, false, false] rfl rfl (by kernel_rfl) (by decide) (fun K hK => ?_)
  refine goes_ Try.func23 (by kernel_rfl) rfl #[.agg #[.int .i64 x.f0, .int .i64 x.f1, .string x.f2, .slice A3 x.f3.length c3]] (by rfl) rfl rfl (by (try simp only [List.map_toArray, List.map_cons, List.map_nil]); first | done | rfl) ?_
  refine (sizarref01_encode.calls ke x.f0 x.f1 x.f2 A3 c3 x.f3 l0 _ (Kd.R_reads' L6.out).2.2 (Kd.R_reads' L6.out).2.1 HEN.out).mono ?_
  rintro e w7 ⟨ve, rfl, hre, hb⟩
  obtain ⟨Ae, ce, rfl⟩ := Kd.R_slice hre
  refine ⟨_, rfl, ?_⟩
  have K7 := Aside0.mk (K6.out.below hb)
  have L7 := Aside0.mk (Kd.R_below L6.out hb)
  obtain ⟨Ag7, cg7, hbg7, -, -, -⟩ := K7.out.r
  have hcs := Kd.C_string (P := Try.prog) (c := ce) Try.underlying27 Try.underlying5 Try.underlying9 (Kd.R_reads' hre).2.2
  refine hK.out _ _ ⟨(blk_cell hbg7 1).trans rfl, (blk_cell hbg7 2).trans rfl, (blk_cell K7.out.v2 0).trans rfl, (blk_cell K7.out.v2 1).trans rfl, (blk_cell K7.out.v2 2).trans rfl, (blk_cell K7.out.v2 3).trans rfl, Kd.C_below HC.out K7.out.b⟩ (fun hHeld => ?_)
  clear hK K
  refine norm_ (a' := ?_) ?_ ?_
  rotate_left
  · show Act.put _ (some 31) _ = _
    simp only [Act.put, List.setIfInBounds_toArray, List.set_cons_zero, List.set_cons_succ, i64_w, i32_w]
    rfl
  refine one_ (i := 21) (N := some 32) #[true, true, true, true, true, true, true, true, true, true, true, true, true, true, true, true, true, true, true, true, true, true, true, true, false, false] rfl rfl (by kernel_rfl) (by decide) (fun K hK => ?_)
  refine value_ (w1 := ?_) (v := ?_) (by rfl) rfl ?_ ?_
  rotate_left 2
  · go_simp
    constructor
    · rfl
    · rfl
  refine hK.out _ _ ⟨(blk_cell hbg7 1).trans rfl, (blk_cell hbg7 2).trans rfl, (blk_cell K7.out.v2 0).trans rfl, (blk_cell K7.out.v2 1).trans rfl, (blk_cell K7.out.v2 2).trans rfl, (blk_cell K7.out.v2 3).trans rfl, Kd.C_below HC.out K7.out.b⟩ (fun hHeld => ?_)
  clear hK K
  refine norm_ (a' := ?_) ?_ ?_
  rotate_left
  · show Act.put _ (some 32) _ = _
    simp only [Act.put, List.setIfInBounds_toArray, List.set_cons_zero, List.set_cons_succ, i64_w, i32_w]
    rfl
  refine pure_ (i := 24) (N := some 35) (v := ?_) (a' := ?_) #[true, true, true, true, true, true, true, true, true, true, true, true, true, true, true, true, true, true, true, true, true, true, true, true, true, false] rfl rfl (by kernel_rfl) (fun _ _ _ h => h) (Or.inl ⟨by rfl, ?_⟩) ?_ ?_
  rotate_left
  · intro w'
    go_simp
    with_reducible rfl
  rotate_left
  · simp only [Act.put, List.setIfInBounds_toArray, List.set_cons_zero, List.set_cons_succ, i64_w, i32_w]
    rfl
  refine pure_ (i := 25) (N := some 36) (v := ?_) (a' := ?_) #[true, true, true, true, true, true, true, true, true, true, true, true, true, true, true, true, true, true, true, true, true, true, true, true, true, true] rfl rfl (by kernel_rfl) (fun _ _ _ h => h) (Or.inl ⟨by rfl, ?_⟩) ?_ ?_
  rotate_left
  · intro w'
    go_simp
    with_reducible rfl
  rotate_left
  · simp only [Act.put, List.setIfInBounds_toArray, List.set_cons_zero, List.set_cons_succ, i64_w, i32_w]
    rfl
  refine done_ (by kernel_rfl) ?_
  have vz0 := (blk_cell K7.out.v1 0).trans rfl
  have vf0 := blk_frozen K7.out.v1 0
  have vz1 := (blk_cell K7.out.v1 1).trans rfl
  have vf1 := blk_frozen K7.out.v1 1
  have vz2 := (blk_cell K7.out.v1 2).trans rfl
  have vf2 := blk_frozen K7.out.v1 2
  have vz3 := (blk_cell K7.out.v1 3).trans rfl
  have vf3 := blk_frozen K7.out.v1 3
  have cz0 := (blk_cell K7.out.v2 0).trans rfl
  have cz1 := (blk_cell K7.out.v2 1).trans rfl
  have cz2 := (blk_cell K7.out.v2 2).trans rfl
  have cz3 := (blk_cell K7.out.v2 3).trans rfl
  go_wp2
  have E := (((K7.out.set1 0 (.int .i64 x.f0)).set1 1 (.int .i64 x.f1)).set1 2 (.string x.f2)).set1 3 (.slice A3 x.f3.length c3)
  refine bodyPost_ret (results_ct rfl _ _ w.heap.size 24 #[.int .i64 x.f0, .int .i64 x.f1, .string x.f2, .slice A3 x.f3.length c3] (0, 0) _ rfl E.v1 hu24 rfl info24') rfl ?_
  exact ⟨_, rfl, Kd.R_mono (Kd.R_far (p := ⟨w.heap.size, 3, none⟩) (Kd.R_far (p := ⟨w.heap.size, 2, none⟩) (Kd.R_far (p := ⟨w.heap.size, 1, none⟩) (Kd.R_far (p := ⟨w.heap.size, 0, none⟩) L7.out (fun k_ hk_ => by simp at hk_ ⊢; omega) (.int .i64 x.f0)) (fun k_ hk_ => by simp at hk_ ⊢; omega) (.int .i64 x.f1)) (fun k_ hk_ => by simp at hk_ ⊢; omega) (.string x.f2)) (fun k_ hk_ => by simp at hk_ ⊢; omega) (.slice A3 x.f3.length c3)) (fun _ _ => trivial), E.b⟩
theorem sizarref01_Decode.calls (A0 : Option Addr) (c0 : Nat) (l0 : List Int) (r1 : Int) (r2 : Int) (r3 : ByteArray) (r4 : List (S24)) (r5 : Int) (w : World) (hr0 : Kd.C (Kd.int .u8) w A0 l0.length l0) (hc0 : l0.length ≤ c0) (h : sizarref01_Decode.f l0 = some (r1, r2, r3, r4, r5)) :
    Calls Try.prog 15 #[.slice A0 l0.length c0] w fun e w' => ∃ v3_ : Value, e = .returned (.tuple #[.agg #[.int .i64 r1, .int .i64 r2, .string r3, v3_], .int .i64 r5]) ∧ Kd.R k24 24 w' w.heap.size (fun _ => True) v3_ r4 ∧ Below w.heap.size w w' := by
  unfold sizarref01_Decode.f at h
  split at h
  case isFalse => cases h
  rename_i hl
  cases hv : decV l0 with
  | none =>
    rw [hv] at h
    cases h
    exact ref_bad A0 c0 l0 w hr0 hc0 hl.1 hl.2 hv
  | some x =>
    rw [hv] at h
    cases h
    exact ref_good A0 c0 l0 x w hr0 hc0 hl.1 hl.2 hv
end Go.Proofs.Ytgnkjhppfenmaaa.Q
namespace Go.Proofs.Ytgnkjhppfenmaaa.Q
open Go.RowKit Go.Proofs.YtgnkjhppfenmaaaW.PrintWords Go.Proofs.YtgnkjhppfenmaaaW.PrintLast Go.Proofs.YtgnkjhppfenmaaaW.PrintMore
attribute [local go_sem] max2_int min2_int max_two min_two max_three min_three max_four min_four   -- for this text's walks alone
set_option linter.unusedVariables false
set_option linter.unusedSimpArgs false

/-! ### sizarref01_Same: function 16 -/
mutual
def sizarref01_Same.j0 : Nat → Bool → Int → Int → ByteArray → List (S24) → Int → Int → ByteArray → List (S24) → Option (Bool)
  | 0, _, _, _, _, _, _, _, _, _ => none
  | k + 1, x33, x102000, x102001, x102002, x102003, x103000, x103001, x103002, x103003 => if x33 = true then (some false) else (sizarref01_Same.l0 k 0 x102000 x102001 x102002 x102003 x103000 x103001 x103002 x103003)
def sizarref01_Same.l0 : Nat → Int → Int → Int → ByteArray → List (S24) → Int → Int → ByteArray → List (S24) → Option (Bool)
  | 0, _, _, _, _, _, _, _, _, _ => none
  | k + 1, x5, x102000, x102001, x102002, x102003, x103000, x103001, x103002, x103003 => if x5 < (x102003.length : Int) then (if 0 ≤ x5 then (if x5 < (x103003.length : Int) then ((sizarref01_Same.f k ((rd_T24 x102003 x5).f0) ((rd_T24 x102003 x5).f1) ((rd_T24 x102003 x5).f2) ((rd_T24 x102003 x5).f3) ((rd_T24 x103003 x5).f0) ((rd_T24 x103003 x5).f1) ((rd_T24 x103003 x5).f2) ((rd_T24 x103003 x5).f3)).bind fun t105 => (if t105 = true then (sizarref01_Same.l0 k (wrap64 (x5 + 1)) x102000 x102001 x102002 x102003 x103000 x103001 x103002 x103003) else (some false))) else (none)) else (none)) else (some true)
def sizarref01_Same.f : Nat → Int → Int → ByteArray → List (S24) → Int → Int → ByteArray → List (S24) → Option (Bool)
  | 0, _, _, _, _, _, _, _, _ => none
  | k + 1, a0_0, a0_1, a0_2, l0_3, a1_0, a1_1, a1_2, l1_3 => if a0_0 = a1_0 then (if a0_1 = a1_1 then (if a0_2.toList = a1_2.toList then (sizarref01_Same.j0 k ((l0_3.length : Int) != (l1_3.length : Int)) a0_0 a0_1 a0_2 l0_3 a1_0 a1_1 a1_2 l1_3) else (sizarref01_Same.j0 k true a0_0 a0_1 a0_2 l0_3 a1_0 a1_1 a1_2 l1_3)) else (sizarref01_Same.j0 k true a0_0 a0_1 a0_2 l0_3 a1_0 a1_1 a1_2 l1_3)) else (sizarref01_Same.j0 k true a0_0 a0_1 a0_2 l0_3 a1_0 a1_1 a1_2 l1_3)
end
theorem sizarref01_Same.mono_l : ∀ k, (∀ y0 y1 y2 y3 y4 y5 y6 y7, LeO (sizarref01_Same.f k y0 y1 y2 y3 y4 y5 y6 y7) (sizarref01_Same.f (k + 1) y0 y1 y2 y3 y4 y5 y6 y7)) ∧ (∀ y0 y1 y2 y3 y4 y5 y6 y7 y8, LeO (sizarref01_Same.j0 k y0 y1 y2 y3 y4 y5 y6 y7 y8) (sizarref01_Same.j0 (k + 1) y0 y1 y2 y3 y4 y5 y6 y7 y8)) ∧ (∀ y0 y1 y2 y3 y4 y5 y6 y7 y8, LeO (sizarref01_Same.l0 k y0 y1 y2 y3 y4 y5 y6 y7 y8) (sizarref01_Same.l0 (k + 1) y0 y1 y2 y3 y4 y5 y6 y7 y8))
  | 0 => ⟨fun _ _ _ _ _ _ _ _ r h => by simp [sizarref01_Same.f] at h, fun _ _ _ _ _ _ _ _ _ r h => by simp [sizarref01_Same.j0] at h, fun _ _ _ _ _ _ _ _ _ r h => by simp [sizarref01_Same.l0] at h⟩
  | k + 1 => by
    obtain ⟨ih0, ih1, ih2⟩ := sizarref01_Same.mono_l k
    refine ⟨?_, ?_, ?_⟩
    · intro y0 y1 y2 y3 y4 y5 y6 y7
      unfold sizarref01_Same.f
      repeat' first
      | (with_reducible exact ih0 _ _ _ _ _ _ _ _)
      | (with_reducible exact ih1 _ _ _ _ _ _ _ _ _)
      | (with_reducible exact ih2 _ _ _ _ _ _ _ _ _)
      | (with_reducible exact LeO.refl _)
      | (with_reducible exact LeO.none _)
      | (with_reducible refine LeO.ite ?_ ?_)
      | (with_reducible refine LeO.bind ?_ (fun _ => ?_))
      | exact ih0 _ _ _ _ _ _ _ _
      | exact ih1 _ _ _ _ _ _ _ _ _
      | exact ih2 _ _ _ _ _ _ _ _ _
      | exact LeO.none _
      | refine LeO.ite ?_ ?_
      | refine LeO.bind ?_ (fun _ => ?_)
    · intro y0 y1 y2 y3 y4 y5 y6 y7 y8
      unfold sizarref01_Same.j0
      repeat' first
      | (with_reducible exact ih0 _ _ _ _ _ _ _ _)
      | (with_reducible exact ih1 _ _ _ _ _ _ _ _ _)
      | (with_reducible exact ih2 _ _ _ _ _ _ _ _ _)
      | (with_reducible exact LeO.refl _)
      | (with_reducible exact LeO.none _)
      | (with_reducible refine LeO.ite ?_ ?_)
      | (with_reducible refine LeO.bind ?_ (fun _ => ?_))
      | exact ih0 _ _ _ _ _ _ _ _
      | exact ih1 _ _ _ _ _ _ _ _ _
      | exact ih2 _ _ _ _ _ _ _ _ _
      | exact LeO.none _
      | refine LeO.ite ?_ ?_
      | refine LeO.bind ?_ (fun _ => ?_)
    · intro y0 y1 y2 y3 y4 y5 y6 y7 y8
      unfold sizarref01_Same.l0
      repeat' first
      | (with_reducible exact ih0 _ _ _ _ _ _ _ _)
      | (with_reducible exact ih1 _ _ _ _ _ _ _ _ _)
      | (with_reducible exact ih2 _ _ _ _ _ _ _ _ _)
      | (with_reducible exact LeO.refl _)
      | (with_reducible exact LeO.none _)
      | (with_reducible refine LeO.ite ?_ ?_)
      | (with_reducible refine LeO.bind ?_ (fun _ => ?_))
      | exact ih0 _ _ _ _ _ _ _ _
      | exact ih1 _ _ _ _ _ _ _ _ _
      | exact ih2 _ _ _ _ _ _ _ _ _
      | exact LeO.none _
      | refine LeO.ite ?_ ?_
      | refine LeO.bind ?_ (fun _ => ?_)
theorem sizarref01_Same.mono : ∀ a0 a1 a2 a3 a4 a5 a6 a7 k, LeO (sizarref01_Same.f k a0 a1 a2 a3 a4 a5 a6 a7) (sizarref01_Same.f (k + 1) a0 a1 a2 a3 a4 a5 a6 a7) := by
  intro a0 a1 a2 a3 a4 a5 a6 a7 k
  obtain ⟨ih0, ih1, ih2⟩ := sizarref01_Same.mono_l k
  exact ih0 a0 a1 a2 a3 a4 a5 a6 a7
def sizarref01_Same.T6 : Bool × List (List Nat × List Nat) := (true, [([], []), ([0], [0]), ([], []), ([1, 2], [1, 2]), ([3], [3]), ([], []), ([5], [5]), ([], []), ([6, 7], [6, 7]), ([8], [8]), ([4, 9], [4, 9]), ([10], [10])])
def sizarref01_Same.B6 : List Nat := [0, 1, 0, 7, 15, 0, 32, 0, 224, 480, 1023, 2047]
theorem sizarref01_Same.tab6 : rtab .any (opsOf Try.f16 6) = sizarref01_Same.T6 := by kernel_rfl
theorem sizarref01_Same.bits6 : waitsOk sizarref01_Same.T6.2 sizarref01_Same.B6 = true := by kernel_rfl
set_option maxHeartbeats 8000000 in
set_option maxRecDepth 100000 in
theorem sizarref01_Same.calls (k : Nat) : ∀ (a0_0 : Int) (a0_1 : Int) (a0_2 : ByteArray) (A0_3 : Option Addr) (c0_3 : Nat) (l0_3 : List (S24)) (a1_0 : Int) (a1_1 : Int) (a1_2 : ByteArray) (A1_3 : Option Addr) (c1_3 : Nat) (l1_3 : List (S24)) (r : Bool) (w : World) (hr0_3 : Kd.C k24 w A0_3 l0_3.length l0_3) (hc0_3 : l0_3.length ≤ c0_3) (hr1_3 : Kd.C k24 w A1_3 l1_3.length l1_3) (hc1_3 : l1_3.length ≤ c1_3) (h : sizarref01_Same.f k a0_0 a0_1 a0_2 l0_3 a1_0 a1_1 a1_2 l1_3 = some r),
    Calls Try.prog 16 #[.agg #[.int .i64 a0_0, .int .i64 a0_1, .string a0_2, .slice A0_3 l0_3.length c0_3], .agg #[.int .i64 a1_0, .int .i64 a1_1, .string a1_2, .slice A1_3 l1_3.length c1_3]] w fun e w' => e = .returned (.bool r) ∧ Below w.heap.size w w' := by
  induction k using Nat.strongRecOn with
  | _ k ih =>
  intro a0_0 a0_1 a0_2 A0_3 c0_3 l0_3 a1_0 a1_1 a1_2 A1_3 c1_3 l1_3 r w hr0_3 hc0_3 hr1_3 hc1_3 h
  cases k with
  | zero => exact absurd h (by simp [sizarref01_Same.f])
  | succ k =>
  simp only [sizarref01_Same.f] at h
  have hu24 := Try.underlying24
  have HR0_3 := Aside0.mk hr0_3
  have HC0_3 := Aside0.mk hc0_3
  clear hr0_3 hc0_3
  have HR1_3 := Aside0.mk hr1_3
  have HC1_3 := Aside0.mk hc1_3
  clear hr1_3 hc1_3
  have HB := Aside0.mk (Below.refl w.heap.size w)
  have H : (if a0_0 = a1_0 then (if a0_1 = a1_1 then (if a0_2.toList = a1_2.toList then (sizarref01_Same.j0 k ((l0_3.length : Int) != (l1_3.length : Int)) a0_0 a0_1 a0_2 l0_3 a1_0 a1_1 a1_2 l1_3) else (sizarref01_Same.j0 k true a0_0 a0_1 a0_2 l0_3 a1_0 a1_1 a1_2 l1_3)) else (sizarref01_Same.j0 k true a0_0 a0_1 a0_2 l0_3 a1_0 a1_1 a1_2 l1_3)) else (sizarref01_Same.j0 k true a0_0 a0_1 a0_2 l0_3 a1_0 a1_1 a1_2 l1_3)) = some r := h
  clear h
  have HC3 := Aside0.mk H
  clear H
  go_enter Try.func16, Try.ntmps16
  go_upto_region 1 with (first | ((with_reducible refine gate_dst (N := 2) rfl ?_); (try (refine gate_guard (by rfl) ?_; dsimp only)); refine box_event ?hg (N := 2) ?hd (cs := #[.int .i64 a0_0, .int .i64 a0_1, .string a0_2, .slice A0_3 l0_3.length c0_3]) (t := 24) ?hr ?_; (case hd => rfl); (case hg => rfl); (case hr => first | (go_simp; done) | (go_simp; rfl)); intro gb101 hg w4 hbox hb; have n0_ := Aside0.mk (below_step (by repeat (first | (with_reducible first | exact HB.out | apply below_alloc | apply pw_below_drewN | apply below_drew1) | exact HB.out)) hb); have n1_ := Aside0.mk (hbox); have n2_ := Aside0.mk ((by rw [hg]; exact (below_size (by repeat (first | (with_reducible first | exact HB.out | apply below_alloc | apply pw_below_drewN | apply below_drew1) | exact HB.out))) : w.heap.size ≤ gb101)); have n3_ := Aside0.mk ((by rw [hg]; exact (below_size (by repeat (first | (with_reducible first | exact HB.out | apply below_alloc | apply pw_below_drewN | apply below_drew1) | exact HB.out))) : w.heap.size ≤ gb101)); clear HB; have HB := n0_; have BK101 := n1_; have GW101 := n2_; have GE101 := n3_; clear n0_ n1_ n2_ n3_; clear hb hbox hg) | ((with_reducible refine gate_dst (N := 3) rfl ?_); (try (refine gate_guard (by rfl) ?_; dsimp only)); refine box_event ?hg (N := 3) ?hd (cs := #[.int .i64 a1_0, .int .i64 a1_1, .string a1_2, .slice A1_3 l1_3.length c1_3]) (t := 24) ?hr ?_; (case hd => rfl); (case hg => rfl); (case hr => first | (go_simp; done) | (go_simp; rfl)); intro gb102 hg w5 hbox hb; have n0_ := Aside0.mk (blk_below (g := gb101) (o := .cells #[.int .i64 a0_0, .int .i64 a0_1, .string a0_2, .slice A0_3 l0_3.length c0_3] 24 (0, 0)) (by (with_reducible repeat (first | refine blk_drewN ?_ _ | refine blk_drew ?_ | refine blk_alloc ?_ _)); exact BK101.out) hb); have n1_ := Aside0.mk (below_step (by repeat (first | (with_reducible first | exact HB.out | apply below_alloc | apply pw_below_drewN | apply below_drew1 | refine below_set ?_ GE101.out) | exact HB.out)) hb); have n2_ := Aside0.mk (hbox); have n3_ := Aside0.mk ((by rw [hg]; exact (below_size (by repeat (first | (with_reducible first | exact HB.out | apply below_alloc | apply pw_below_drewN | apply below_drew1 | refine below_set ?_ GE101.out) | exact HB.out))) : w.heap.size ≤ gb102)); have n4_ := Aside0.mk ((by rw [hg]; exact (below_size (by repeat (first | (with_reducible first | exact HB.out | apply below_alloc | apply pw_below_drewN | apply below_drew1 | refine below_set ?_ GE101.out) | exact HB.out))) : w.heap.size ≤ gb102)); have n5_ := Aside0.mk ((by rw [hg]; exact Nat.ne_of_lt (blk_lt (g := gb101) (o := .cells #[.int .i64 a0_0, .int .i64 a0_1, .string a0_2, .slice A0_3 l0_3.length c0_3] 24 (0, 0)) (by (with_reducible repeat (first | refine blk_drewN ?_ _ | refine blk_drew ?_ | refine blk_alloc ?_ _)); exact BK101.out)) : gb101 ≠ gb102)); have n6_ := Aside0.mk ((by rw [hg]; exact Nat.ne_of_gt (blk_lt (g := gb101) (o := .cells #[.int .i64 a0_0, .int .i64 a0_1, .string a0_2, .slice A0_3 l0_3.length c0_3] 24 (0, 0)) (by (with_reducible repeat (first | refine blk_drewN ?_ _ | refine blk_drew ?_ | refine blk_alloc ?_ _)); exact BK101.out)) : gb102 ≠ gb101)); clear BK101; clear HB; have BK101 := n0_; have HB := n1_; have BK102 := n2_; have GW102 := n3_; have GE102 := n4_; have NB101_102 := n5_; have NB102_101 := n6_; clear n0_ n1_ n2_ n3_ n4_ n5_ n6_; clear hb hbox hg))
  (try simp only [Act.put, List.setIfInBounds_toArray, List.set_cons_zero, List.set_cons_succ])
  go_cut [33] (fun v33 wc => ∃ (kq : Nat) (x33_2 : Bool), v33 = .bool x33_2 ∧ Aside0 (sizarref01_Same.j0 kq x33_2 a0_0 a0_1 a0_2 l0_3 a1_0 a1_1 a1_2 l1_3 = some r) ∧ Aside0 (kq ≤ k) ∧ Aside0 (wc.heap[gb101]? = some (.cells #[.int .i64 a0_0, .int .i64 a0_1, .string a0_2, (.slice A0_3 l0_3.length c0_3)] 24 (0, 0))) ∧ Aside0 (wc.heap[gb102]? = some (.cells #[.int .i64 a1_0, .int .i64 a1_1, .string a1_2, (.slice A1_3 l1_3.length c1_3)] 24 (0, 0))) ∧ Aside0 (Below w.heap.size w wc))
  case first =>
    have H := HC3.out
    clear HC3
    by_cases c6 : a0_0 = a1_0
    · rw [if_pos c6] at H
      have c6b0 : (a0_0 == a1_0) = true := beq_iff_eq.mpr c6
      have c6b1 : (a0_0 != a1_0) = false := bne_eq_false_iff_eq.mpr c6
      clear c6
      (first | rw [c6b0] | (simp only [i64_w, i32_w]; rw [c6b0]) | skip)
      by_cases c7 : a0_1 = a1_1
      · rw [if_pos c7] at H
        have c7b0 : (a0_1 == a1_1) = true := beq_iff_eq.mpr c7
        have c7b1 : (a0_1 != a1_1) = false := bne_eq_false_iff_eq.mpr c7
        clear c7
        by_cases c8 : a0_2.toList = a1_2.toList
        · rw [if_pos c8] at H
          have c8b0 : (a0_2.toList == a1_2.toList) = true := beq_iff_eq.mpr c8
          have c8b1 : (a0_2.toList != a1_2.toList) = false := bne_eq_false_iff_eq.mpr c8
          clear c8
          have H' := Aside0.mk H
          clear H
          have hnb9 := NB101_102.out
          have hnc9 := NB102_101.out
          have hcz10_0 : w5.cell? ⟨gb101, 0, none⟩ = some (.int .i64 a0_0) := (blk_cell BK101.out 0).trans rfl
          have hcz10_1 : w5.cell? ⟨gb101, 1, none⟩ = some (.int .i64 a0_1) := (blk_cell BK101.out 1).trans rfl
          have hcz10_2 : w5.cell? ⟨gb101, 2, none⟩ = some (.string a0_2) := (blk_cell BK101.out 2).trans rfl
          have hcz10_3 : w5.cell? ⟨gb101, 3, none⟩ = some (.slice A0_3 l0_3.length c0_3) := (blk_cell BK101.out 3).trans rfl
          have hfz10_0 := blk_frozen BK101.out 0
          have hfz10_1 := blk_frozen BK101.out 1
          have hfz10_2 := blk_frozen BK101.out 2
          have hfz10_3 := blk_frozen BK101.out 3
          have hcz11_0 : w5.cell? ⟨gb102, 0, none⟩ = some (.int .i64 a1_0) := (blk_cell BK102.out 0).trans rfl
          have hcz11_1 : w5.cell? ⟨gb102, 1, none⟩ = some (.int .i64 a1_1) := (blk_cell BK102.out 1).trans rfl
          have hcz11_2 : w5.cell? ⟨gb102, 2, none⟩ = some (.string a1_2) := (blk_cell BK102.out 2).trans rfl
          have hcz11_3 : w5.cell? ⟨gb102, 3, none⟩ = some (.slice A1_3 l1_3.length c1_3) := (blk_cell BK102.out 3).trans rfl
          have hfz11_0 := blk_frozen BK102.out 0
          have hfz11_1 := blk_frozen BK102.out 1
          have hfz11_2 := blk_frozen BK102.out 2
          have hfz11_3 := blk_frozen BK102.out 3
          go_wp2
          go_meet
          case rel => exact ⟨_, (((l0_3.length : Int) != (l1_3.length : Int))), (by first | rfl | (simp; done) | (simp [*]; done)), H', ⟨by first | omega | exact Nat.le_refl _⟩, ⟨by (with_reducible repeat (first | refine blk_drewN ?_ _ | refine blk_drew ?_ | refine blk_alloc ?_ _)); exact BK101.out⟩, ⟨by (with_reducible repeat (first | refine blk_drewN ?_ _ | refine blk_drew ?_ | refine blk_alloc ?_ _)); exact BK102.out⟩, ⟨by repeat (first | (with_reducible first | exact HB.out | apply below_alloc | apply pw_below_drewN | apply below_drew1 | refine below_set ?_ GE101.out | refine below_set ?_ GE102.out) | exact HB.out)⟩⟩
        · rw [if_neg c8] at H
          have c8b0 : (a0_2.toList == a1_2.toList) = false := beq_eq_false_iff_ne.mpr c8
          have c8b1 : (a0_2.toList != a1_2.toList) = true := bne_iff_ne.mpr c8
          have H' := Aside0.mk H
          clear H
          have hnb12 := NB101_102.out
          have hnc12 := NB102_101.out
          have hcz13_0 : w5.cell? ⟨gb101, 0, none⟩ = some (.int .i64 a0_0) := (blk_cell BK101.out 0).trans rfl
          have hcz13_1 : w5.cell? ⟨gb101, 1, none⟩ = some (.int .i64 a0_1) := (blk_cell BK101.out 1).trans rfl
          have hcz13_2 : w5.cell? ⟨gb101, 2, none⟩ = some (.string a0_2) := (blk_cell BK101.out 2).trans rfl
          have hcz13_3 : w5.cell? ⟨gb101, 3, none⟩ = some (.slice A0_3 l0_3.length c0_3) := (blk_cell BK101.out 3).trans rfl
          have hfz13_0 := blk_frozen BK101.out 0
          have hfz13_1 := blk_frozen BK101.out 1
          have hfz13_2 := blk_frozen BK101.out 2
          have hfz13_3 := blk_frozen BK101.out 3
          have hcz14_0 : w5.cell? ⟨gb102, 0, none⟩ = some (.int .i64 a1_0) := (blk_cell BK102.out 0).trans rfl
          have hcz14_1 : w5.cell? ⟨gb102, 1, none⟩ = some (.int .i64 a1_1) := (blk_cell BK102.out 1).trans rfl
          have hcz14_2 : w5.cell? ⟨gb102, 2, none⟩ = some (.string a1_2) := (blk_cell BK102.out 2).trans rfl
          have hcz14_3 : w5.cell? ⟨gb102, 3, none⟩ = some (.slice A1_3 l1_3.length c1_3) := (blk_cell BK102.out 3).trans rfl
          have hfz14_0 := blk_frozen BK102.out 0
          have hfz14_1 := blk_frozen BK102.out 1
          have hfz14_2 := blk_frozen BK102.out 2
          have hfz14_3 := blk_frozen BK102.out 3
          go_wp2
          go_meet
          case rel => exact ⟨_, (true), (by first | rfl | (simp; done) | (simp [*]; done)), H', ⟨by first | omega | exact Nat.le_refl _⟩, ⟨by (with_reducible repeat (first | refine blk_drewN ?_ _ | refine blk_drew ?_ | refine blk_alloc ?_ _)); exact BK101.out⟩, ⟨by (with_reducible repeat (first | refine blk_drewN ?_ _ | refine blk_drew ?_ | refine blk_alloc ?_ _)); exact BK102.out⟩, ⟨by repeat (first | (with_reducible first | exact HB.out | apply below_alloc | apply pw_below_drewN | apply below_drew1 | refine below_set ?_ GE101.out | refine below_set ?_ GE102.out) | exact HB.out)⟩⟩
      · rw [if_neg c7] at H
        have c7b0 : (a0_1 == a1_1) = false := beq_eq_false_iff_ne.mpr c7
        have c7b1 : (a0_1 != a1_1) = true := bne_iff_ne.mpr c7
        have H' := Aside0.mk H
        clear H
        have hnb15 := NB101_102.out
        have hnc15 := NB102_101.out
        have hcz16_0 : w5.cell? ⟨gb101, 0, none⟩ = some (.int .i64 a0_0) := (blk_cell BK101.out 0).trans rfl
        have hcz16_1 : w5.cell? ⟨gb101, 1, none⟩ = some (.int .i64 a0_1) := (blk_cell BK101.out 1).trans rfl
        have hcz16_2 : w5.cell? ⟨gb101, 2, none⟩ = some (.string a0_2) := (blk_cell BK101.out 2).trans rfl
        have hcz16_3 : w5.cell? ⟨gb101, 3, none⟩ = some (.slice A0_3 l0_3.length c0_3) := (blk_cell BK101.out 3).trans rfl
        have hfz16_0 := blk_frozen BK101.out 0
        have hfz16_1 := blk_frozen BK101.out 1
        have hfz16_2 := blk_frozen BK101.out 2
        have hfz16_3 := blk_frozen BK101.out 3
        have hcz17_0 : w5.cell? ⟨gb102, 0, none⟩ = some (.int .i64 a1_0) := (blk_cell BK102.out 0).trans rfl
        have hcz17_1 : w5.cell? ⟨gb102, 1, none⟩ = some (.int .i64 a1_1) := (blk_cell BK102.out 1).trans rfl
        have hcz17_2 : w5.cell? ⟨gb102, 2, none⟩ = some (.string a1_2) := (blk_cell BK102.out 2).trans rfl
        have hcz17_3 : w5.cell? ⟨gb102, 3, none⟩ = some (.slice A1_3 l1_3.length c1_3) := (blk_cell BK102.out 3).trans rfl
        have hfz17_0 := blk_frozen BK102.out 0
        have hfz17_1 := blk_frozen BK102.out 1
        have hfz17_2 := blk_frozen BK102.out 2
        have hfz17_3 := blk_frozen BK102.out 3
        go_wp2
        go_meet
        case rel => exact ⟨_, (true), (by first | rfl | (simp; done) | (simp [*]; done)), H', ⟨by first | omega | exact Nat.le_refl _⟩, ⟨by (with_reducible repeat (first | refine blk_drewN ?_ _ | refine blk_drew ?_ | refine blk_alloc ?_ _)); exact BK101.out⟩, ⟨by (with_reducible repeat (first | refine blk_drewN ?_ _ | refine blk_drew ?_ | refine blk_alloc ?_ _)); exact BK102.out⟩, ⟨by repeat (first | (with_reducible first | exact HB.out | apply below_alloc | apply pw_below_drewN | apply below_drew1 | refine below_set ?_ GE101.out | refine below_set ?_ GE102.out) | exact HB.out)⟩⟩
    · rw [if_neg c6] at H
      have c6b0 : (a0_0 == a1_0) = false := beq_eq_false_iff_ne.mpr c6
      have c6b1 : (a0_0 != a1_0) = true := bne_iff_ne.mpr c6
      (first | rw [c6b0] | (simp only [i64_w, i32_w]; rw [c6b0]) | skip)
      have H' := Aside0.mk H
      clear H
      have hnb18 := NB101_102.out
      have hnc18 := NB102_101.out
      have hcz19_0 : w5.cell? ⟨gb101, 0, none⟩ = some (.int .i64 a0_0) := (blk_cell BK101.out 0).trans rfl
      have hcz19_1 : w5.cell? ⟨gb101, 1, none⟩ = some (.int .i64 a0_1) := (blk_cell BK101.out 1).trans rfl
      have hcz19_2 : w5.cell? ⟨gb101, 2, none⟩ = some (.string a0_2) := (blk_cell BK101.out 2).trans rfl
      have hcz19_3 : w5.cell? ⟨gb101, 3, none⟩ = some (.slice A0_3 l0_3.length c0_3) := (blk_cell BK101.out 3).trans rfl
      have hfz19_0 := blk_frozen BK101.out 0
      have hfz19_1 := blk_frozen BK101.out 1
      have hfz19_2 := blk_frozen BK101.out 2
      have hfz19_3 := blk_frozen BK101.out 3
      have hcz20_0 : w5.cell? ⟨gb102, 0, none⟩ = some (.int .i64 a1_0) := (blk_cell BK102.out 0).trans rfl
      have hcz20_1 : w5.cell? ⟨gb102, 1, none⟩ = some (.int .i64 a1_1) := (blk_cell BK102.out 1).trans rfl
      have hcz20_2 : w5.cell? ⟨gb102, 2, none⟩ = some (.string a1_2) := (blk_cell BK102.out 2).trans rfl
      have hcz20_3 : w5.cell? ⟨gb102, 3, none⟩ = some (.slice A1_3 l1_3.length c1_3) := (blk_cell BK102.out 3).trans rfl
      have hfz20_0 := blk_frozen BK102.out 0
      have hfz20_1 := blk_frozen BK102.out 1
      have hfz20_2 := blk_frozen BK102.out 2
      have hfz20_3 := blk_frozen BK102.out 3
      go_wp2
      go_meet
      case rel => exact ⟨_, (true), (by first | rfl | (simp; done) | (simp [*]; done)), H', ⟨by first | omega | exact Nat.le_refl _⟩, ⟨by (with_reducible repeat (first | refine blk_drewN ?_ _ | refine blk_drew ?_ | refine blk_alloc ?_ _)); exact BK101.out⟩, ⟨by (with_reducible repeat (first | refine blk_drewN ?_ _ | refine blk_drew ?_ | refine blk_alloc ?_ _)); exact BK102.out⟩, ⟨by repeat (first | (with_reducible first | exact HB.out | apply below_alloc | apply pw_below_drewN | apply below_drew1 | refine below_set ?_ GE101.out | refine below_set ?_ GE102.out) | exact HB.out)⟩⟩
  case rest =>
    clear HC3
    try clear c1
    try clear p2
    try clear c6
    try clear c6b0
    try clear c6b1
    try clear c7
    try clear c7b0
    try clear c7b1
    try clear c8
    try clear c8b0
    try clear c8b1
    try clear c9
    try clear c12
    try clear c15
    try clear c16
    try clear c18
    try clear hcz10_0
    try clear hcz10_1
    try clear hcz10_2
    try clear hcz10_3
    try clear hcz11_0
    try clear hcz11_1
    try clear hcz11_2
    try clear hcz11_3
    try clear hcz13_0
    try clear hcz13_1
    try clear hcz13_2
    try clear hcz13_3
    try clear hcz14_0
    try clear hcz14_1
    try clear hcz14_2
    try clear hcz14_3
    try clear hcz16_0
    try clear hcz16_1
    try clear hcz16_2
    try clear hcz16_3
    try clear hcz17_0
    try clear hcz17_1
    try clear hcz17_2
    try clear hcz17_3
    try clear hcz19_0
    try clear hcz19_1
    try clear hcz19_2
    try clear hcz19_3
    try clear hcz20_0
    try clear hcz20_1
    try clear hcz20_2
    try clear hcz20_3
    try clear hfz10_0
    try clear hfz10_1
    try clear hfz10_2
    try clear hfz10_3
    try clear hfz11_0
    try clear hfz11_1
    try clear hfz11_2
    try clear hfz11_3
    try clear hfz13_0
    try clear hfz13_1
    try clear hfz13_2
    try clear hfz13_3
    try clear hfz14_0
    try clear hfz14_1
    try clear hfz14_2
    try clear hfz14_3
    try clear hfz16_0
    try clear hfz16_1
    try clear hfz16_2
    try clear hfz16_3
    try clear hfz17_0
    try clear hfz17_1
    try clear hfz17_2
    try clear hfz17_3
    try clear hfz19_0
    try clear hfz19_1
    try clear hfz19_2
    try clear hfz19_3
    try clear hfz20_0
    try clear hfz20_1
    try clear hfz20_2
    try clear hfz20_3
    obtain ⟨kq, x33_2, rfl, HA, HJ2, BK101, BK102, HB⟩ := hcut
    cases kq with
    | zero => exact absurd HA.out (by simp [sizarref01_Same.j0])
    | succ kj2 =>
      have H := HA.out
      clear HA
      simp only [sizarref01_Same.j0] at H
      by_cases c21 : x33_2 = true
      · subst c21
        have H1 : (some false) = some r := by rw [if_pos rfl] at H; exact H
        clear H
        have H := H1
        clear H1
        obtain rfl := Option.some.inj H
        go_wp2
        go_ret
        exact ⟨by first | rfl | (simp [errW_none, errW_some] <;> rfl) | (simp [*, errW_none, errW_some] <;> rfl), by repeat (first | (with_reducible first | exact HB.out | apply below_alloc | apply pw_below_drewN | apply below_drew1 | refine below_set ?_ GE101.out | refine below_set ?_ GE102.out) | exact HB.out)⟩
      · replace c21 := Bool.eq_false_iff.mpr c21
        subst c21
        have H1 : (sizarref01_Same.l0 kj2 0 a0_0 a0_1 a0_2 l0_3 a1_0 a1_1 a1_2 l1_3) = some r := by rw [if_neg (show ¬ (false = true) by decide)] at H; exact H
        clear H
        have H := H1
        clear H1
        have H' := Aside0.mk H
        clear H
        go_wp2
        go_loopg [5] kj2 (fun kq v5 w' => ∃ (x5_2 : Int), v5 = .int .i64 x5_2 ∧ Aside0 (sizarref01_Same.l0 kq x5_2 a0_0 a0_1 a0_2 l0_3 a1_0 a1_1 a1_2 l1_3 = some r) ∧ Aside0 (kq ≤ kj2) ∧ Aside0 (w'.heap[gb101]? = some (.cells #[.int .i64 a0_0, .int .i64 a0_1, .string a0_2, (.slice A0_3 l0_3.length c0_3)] 24 (0, 0))) ∧ Aside0 (w'.heap[gb102]? = some (.cells #[.int .i64 a1_0, .int .i64 a1_1, .string a1_2, (.slice A1_3 l1_3.length c1_3)] 24 (0, 0))) ∧ Aside0 (Below w.heap.size w w'))
        case atStart => exact ⟨(0), (by first | rfl | (simp; done) | (simp [*]; done)), H', ⟨Nat.le_refl _⟩, ⟨by (with_reducible repeat (first | refine blk_drewN ?_ _ | refine blk_drew ?_ | refine blk_alloc ?_ _)); exact BK101.out⟩, ⟨by (with_reducible repeat (first | refine blk_drewN ?_ _ | refine blk_drew ?_ | refine blk_alloc ?_ _)); exact BK102.out⟩, ⟨by repeat (first | (with_reducible first | exact HB.out | apply below_alloc | apply pw_below_drewN | apply below_drew1 | refine below_set ?_ GE101.out | refine below_set ?_ GE102.out) | exact HB.out)⟩⟩
        case round =>
          clear H'
          try clear c1
          try clear c2
          try clear p2
          try clear c6
          try clear c6b0
          try clear c6b1
          try clear c7
          try clear c7b0
          try clear c7b1
          try clear c8
          try clear c8b0
          try clear c8b1
          try clear c9
          try clear c12
          try clear c15
          try clear c16
          try clear c18
          try clear c21
          try clear hcz10_0
          try clear hcz10_1
          try clear hcz10_2
          try clear hcz10_3
          try clear hcz11_0
          try clear hcz11_1
          try clear hcz11_2
          try clear hcz11_3
          try clear hcz13_0
          try clear hcz13_1
          try clear hcz13_2
          try clear hcz13_3
          try clear hcz14_0
          try clear hcz14_1
          try clear hcz14_2
          try clear hcz14_3
          try clear hcz16_0
          try clear hcz16_1
          try clear hcz16_2
          try clear hcz16_3
          try clear hcz17_0
          try clear hcz17_1
          try clear hcz17_2
          try clear hcz17_3
          try clear hcz19_0
          try clear hcz19_1
          try clear hcz19_2
          try clear hcz19_3
          try clear hcz20_0
          try clear hcz20_1
          try clear hcz20_2
          try clear hcz20_3
          try clear hfz10_0
          try clear hfz10_1
          try clear hfz10_2
          try clear hfz10_3
          try clear hfz11_0
          try clear hfz11_1
          try clear hfz11_2
          try clear hfz11_3
          try clear hfz13_0
          try clear hfz13_1
          try clear hfz13_2
          try clear hfz13_3
          try clear hfz14_0
          try clear hfz14_1
          try clear hfz14_2
          try clear hfz14_3
          try clear hfz16_0
          try clear hfz16_1
          try clear hfz16_2
          try clear hfz16_3
          try clear hfz17_0
          try clear hfz17_1
          try clear hfz17_2
          try clear hfz17_3
          try clear hfz19_0
          try clear hfz19_1
          try clear hfz19_2
          try clear hfz19_3
          try clear hfz20_0
          try clear hfz20_1
          try clear hfz20_2
          try clear hfz20_3
          try clear p2
          obtain ⟨x5_2, rfl, HA, HK2, BK101, BK102, HB⟩ := hrel
          cases gk with
          | zero => exact absurd HA.out (by simp [sizarref01_Same.l0])
          | succ k2 =>
            have H := HA.out
            clear HA
            simp only [sizarref01_Same.l0] at H
            by_cases c22 : x5_2 < (l0_3.length : Int)
            · rw [if_pos c22] at H
              have c22b0 : decide (x5_2 < (l0_3.length : Int)) = true := decide_eq_true c22
              clear c22
              by_cases c23 : 0 ≤ x5_2
              · rw [if_pos c23] at H
                have c23b0 : decide (0 ≤ x5_2) = true := decide_eq_true c23
                clear c23
                by_cases c24 : x5_2 < (l1_3.length : Int)
                · rw [if_pos c24] at H
                  have c24b0 : decide (x5_2 < (l1_3.length : Int)) = true := decide_eq_true c24
                  clear c24
                  replace H := Option.bind_eq_some_iff.mp H
                  obtain ⟨t105, A250, H⟩ := H
                  replace H : (if t105 = true then (sizarref01_Same.l0 k2 (wrap64 (x5_2 + 1)) a0_0 a0_1 a0_2 l0_3 a1_0 a1_1 a1_2 l1_3) else (some false)) = some r := H
                  have A25 := Aside0.mk A250
                  clear A250
                  by_cases c26 : t105 = true
                  · subst c26
                    have H1 : (sizarref01_Same.l0 k2 (wrap64 (x5_2 + 1)) a0_0 a0_1 a0_2 l0_3 a1_0 a1_1 a1_2 l1_3) = some r := by rw [if_pos rfl] at H; exact H
                    clear H
                    have H := H1
                    clear H1
                    have H' := Aside0.mk H
                    clear H
                    have hnb27 := NB101_102.out
                    have hnc27 := NB102_101.out
                    have hcz28_0 : wr.cell? ⟨gb101, 0, none⟩ = some (.int .i64 a0_0) := (blk_cell BK101.out 0).trans rfl
                    have hcz28_1 : wr.cell? ⟨gb101, 1, none⟩ = some (.int .i64 a0_1) := (blk_cell BK101.out 1).trans rfl
                    have hcz28_2 : wr.cell? ⟨gb101, 2, none⟩ = some (.string a0_2) := (blk_cell BK101.out 2).trans rfl
                    have hcz28_3 : wr.cell? ⟨gb101, 3, none⟩ = some (.slice A0_3 l0_3.length c0_3) := (blk_cell BK101.out 3).trans rfl
                    have hfz28_0 := blk_frozen BK101.out 0
                    have hfz28_1 := blk_frozen BK101.out 1
                    have hfz28_2 := blk_frozen BK101.out 2
                    have hfz28_3 := blk_frozen BK101.out 3
                    try go_wp2
                    have n0_ := Aside0.mk (blk_drew BK101.out)
                    have n1_ := Aside0.mk (blk_drew BK102.out)
                    have n2_ := Aside0.mk (below_drew1 HB.out)
                    clear BK101
                    clear BK102
                    clear HB
                    have BK101 := n0_
                    have BK102 := n1_
                    have HB := n2_
                    clear n0_ n1_ n2_
                    have p103 : 0 ≤ (x5_2 : Int) := of_decide_eq_true (by first | (with_reducible assumption) | assumption)
                    have q103 : x5_2 < (l0_3.length : Int) := of_decide_eq_true (by first | (with_reducible assumption) | assumption)
                    obtain ⟨ad103, A103_3, c103_3, e103, hx103_0, hx103_1, hx103_2, hx103_3, hl103_3, hi103_3⟩ := at_T24 HR0_3.out x5_2 p103 q103
                    have hw103_3 := hx103_3
                    have hw103_2 := hx103_2
                    have hw103_1 := hx103_1
                    have hw103_0 := hx103_0
                    cases e103
                    replace hx103_0 := (HB.out.cell (World.block_lt_of_cell? w _ hx103_0)).trans hx103_0
                    replace hx103_1 := (HB.out.cell (World.block_lt_of_cell? w _ hx103_1)).trans hx103_1
                    replace hx103_2 := (HB.out.cell (World.block_lt_of_cell? w _ hx103_2)).trans hx103_2
                    replace hx103_3 := (HB.out.cell (World.block_lt_of_cell? w _ hx103_3)).trans hx103_3
                    have HR103_3 := Aside0.mk hi103_3
                    have HC103_3 := Aside0.mk hl103_3
                    clear hi103_3 hl103_3
                    replace p103 := eq_true p103
                    replace q103 := eq_true q103
                    have p104 : 0 ≤ (x5_2 : Int) := of_decide_eq_true (by first | (with_reducible assumption) | assumption)
                    have q104 : x5_2 < (l1_3.length : Int) := of_decide_eq_true (by first | (with_reducible assumption) | assumption)
                    obtain ⟨ad104, A104_3, c104_3, e104, hx104_0, hx104_1, hx104_2, hx104_3, hl104_3, hi104_3⟩ := at_T24 HR1_3.out x5_2 p104 q104
                    have hw104_3 := hx104_3
                    have hw104_2 := hx104_2
                    have hw104_1 := hx104_1
                    have hw104_0 := hx104_0
                    cases e104
                    replace hx104_0 := (HB.out.cell (World.block_lt_of_cell? w _ hx104_0)).trans hx104_0
                    replace hx104_1 := (HB.out.cell (World.block_lt_of_cell? w _ hx104_1)).trans hx104_1
                    replace hx104_2 := (HB.out.cell (World.block_lt_of_cell? w _ hx104_2)).trans hx104_2
                    replace hx104_3 := (HB.out.cell (World.block_lt_of_cell? w _ hx104_3)).trans hx104_3
                    have HR104_3 := Aside0.mk hi104_3
                    have HC104_3 := Aside0.mk hl104_3
                    clear hi104_3 hl104_3
                    replace p104 := eq_true p104
                    replace q104 := eq_true q104
                    refine start_ (n := 12) (S := fun w' => w'.cell? ⟨gb101, 0, none⟩ = some (.int .i64 a0_0) ∧ w'.cell? ⟨gb101, 1, none⟩ = some (.int .i64 a0_1) ∧ w'.cell? ⟨gb101, 2, none⟩ = some (.string a0_2) ∧ w'.cell? ⟨gb101, 3, none⟩ = some (.slice (some ad103) l0_3.length c0_3) ∧ w'.cell? ⟨gb102, 0, none⟩ = some (.int .i64 a1_0) ∧ w'.cell? ⟨gb102, 1, none⟩ = some (.int .i64 a1_1) ∧ w'.cell? ⟨gb102, 2, none⟩ = some (.string a1_2) ∧ w'.cell? ⟨gb102, 3, none⟩ = some (.slice (some ad104) l1_3.length c1_3) ∧ w'.cell? (ad103.add ((x5_2).toNat * 4)) = some (.int .i64 ((rd_T24 l0_3 x5_2).f0)) ∧ w'.cell? ⟨(ad103.add ((x5_2).toNat * 4)).block, (ad103.add ((x5_2).toNat * 4)).off + 1, none⟩ = some (.int .i64 ((rd_T24 l0_3 x5_2).f1)) ∧ w'.cell? ⟨(ad103.add ((x5_2).toNat * 4)).block, (ad103.add ((x5_2).toNat * 4)).off + 2, none⟩ = some (.string ((rd_T24 l0_3 x5_2).f2)) ∧ w'.cell? ⟨(ad103.add ((x5_2).toNat * 4)).block, (ad103.add ((x5_2).toNat * 4)).off + 3, none⟩ = some (.slice A103_3 ((rd_T24 l0_3 x5_2).f3).length c103_3) ∧ w'.cell? (ad104.add ((x5_2).toNat * 4)) = some (.int .i64 ((rd_T24 l1_3 x5_2).f0)) ∧ w'.cell? ⟨(ad104.add ((x5_2).toNat * 4)).block, (ad104.add ((x5_2).toNat * 4)).off + 1, none⟩ = some (.int .i64 ((rd_T24 l1_3 x5_2).f1)) ∧ w'.cell? ⟨(ad104.add ((x5_2).toNat * 4)).block, (ad104.add ((x5_2).toNat * 4)).off + 2, none⟩ = some (.string ((rd_T24 l1_3 x5_2).f2)) ∧ w'.cell? ⟨(ad104.add ((x5_2).toNat * 4)).block, (ad104.add ((x5_2).toNat * 4)).off + 3, none⟩ = some (.slice A104_3 ((rd_T24 l1_3 x5_2).f3).length c104_3)) (ds := []) #[false, false, false, false, false, false, false, false, false, false, false, false] (by kernel_rfl) rfl rfl ⟨(blk_cell BK101.out 0).trans rfl, (blk_cell BK101.out 1).trans rfl, (blk_cell BK101.out 2).trans rfl, (blk_cell BK101.out 3).trans rfl, (blk_cell BK102.out 0).trans rfl, (blk_cell BK102.out 1).trans rfl, (blk_cell BK102.out 2).trans rfl, (blk_cell BK102.out 3).trans rfl, ((HB.out.cell (World.block_lt_of_cell? w _ hw103_0)).trans hw103_0), ((HB.out.cell (World.block_lt_of_cell? w _ hw103_1)).trans hw103_1), ((HB.out.cell (World.block_lt_of_cell? w _ hw103_2)).trans hw103_2), ((HB.out.cell (World.block_lt_of_cell? w _ hw103_3)).trans hw103_3), ((HB.out.cell (World.block_lt_of_cell? w _ hw104_0)).trans hw104_0), ((HB.out.cell (World.block_lt_of_cell? w _ hw104_1)).trans hw104_1), ((HB.out.cell (World.block_lt_of_cell? w _ hw104_2)).trans hw104_2), ((HB.out.cell (World.block_lt_of_cell? w _ hw104_3)).trans hw104_3)⟩ (fun hHeld => ?_); refine with_tabW sizarref01_Same.tab6 sizarref01_Same.bits6 (fun HT_ HW_ => ?_)
                    generalize wr.drew = w29 at BK101 BK102 HB HR103_3 HR104_3 hx103_0 hx103_1 hx103_2 hx103_3 hx104_0 hx104_1 hx104_2 hx104_3 hHeld ⊢
                    refine pure_ (i := 0) (N := some 41) (v := ?_) (a' := ?_) #[true, false, false, false, false, false, false, false, false, false, false, false] rfl rfl (any_of HT_.out (by kernel_rfl)) (fun _ _ _ h => h) (Or.inl ⟨by rfl, ?_⟩) ?_ ?_
                    rotate_left
                    · intro w'
                      go_simp
                      with_reducible rfl
                    rotate_left
                    · simp only [Act.put, List.setIfInBounds_toArray, List.set_cons_zero, List.set_cons_succ, i64_w, i32_w]
                      rfl
                    refine pure_ (i := 2) (N := some 43) (v := ?_) (a' := ?_) #[true, false, true, false, false, false, false, false, false, false, false, false] rfl rfl (any_of HT_.out (by kernel_rfl)) (fun _ _ _ h => h) (Or.inl ⟨by rfl, ?_⟩) ?_ ?_
                    rotate_left
                    · intro w'
                      go_simp
                      with_reducible rfl
                    rotate_left
                    · simp only [Act.put, List.setIfInBounds_toArray, List.set_cons_zero, List.set_cons_succ, i64_w, i32_w]
                      rfl
                    refine pure_ (i := 5) (N := some 46) (v := ?_) (a' := ?_) #[true, false, true, false, false, true, false, false, false, false, false, false] rfl rfl (any_of HT_.out (by kernel_rfl)) (fun _ _ _ h => h) (Or.inl ⟨by rfl, ?_⟩) ?_ ?_
                    rotate_left
                    · intro w'
                      go_simp
                      with_reducible rfl
                    rotate_left
                    · simp only [Act.put, List.setIfInBounds_toArray, List.set_cons_zero, List.set_cons_succ, i64_w, i32_w]
                      rfl
                    refine pure_ (i := 7) (N := some 48) (v := ?_) (a' := ?_) #[true, false, true, false, false, true, false, true, false, false, false, false] rfl rfl (any_of HT_.out (by kernel_rfl)) (fun _ _ _ h => h) (Or.inl ⟨by rfl, ?_⟩) ?_ ?_
                    rotate_left
                    · intro w'
                      go_simp
                      with_reducible rfl
                    rotate_left
                    · simp only [Act.put, List.setIfInBounds_toArray, List.set_cons_zero, List.set_cons_succ, i64_w, i32_w]
                      rfl
                    refine take_ (i := 1) (N := some 42) (v := ?_) (a' := ?_) #[true, true, true, false, false, true, false, true, false, false, false, false] rfl rfl (take_ofW HT_.out HW_.out (by kernel_rfl)) (fun _ _ _ h => h) (Or.inl ⟨by rfl, ?_⟩) hHeld ?_ ?_
                    rotate_left
                    · rintro w' ⟨s0, s1, s2, s3, s4, s5, s6, s7, s8, s9, s10, s11, s12, s13, s14, s15⟩
                      go_simp
                      with_reducible rfl
                    rotate_left
                    · simp only [Act.put, List.setIfInBounds_toArray, List.set_cons_zero, List.set_cons_succ, i64_w, i32_w]
                      rfl
                    refine pure_ (i := 3) (N := some 44) (v := ?_) (a' := ?_) #[true, true, true, true, false, true, false, true, false, false, false, false] rfl rfl (any_of HT_.out (by kernel_rfl)) (fun _ _ _ h => h) (Or.inl ⟨by rfl, ?_⟩) ?_ ?_
                    rotate_left
                    · intro w'
                      go_simp
                      with_reducible rfl
                    rotate_left
                    · simp only [Act.put, List.setIfInBounds_toArray, List.set_cons_zero, List.set_cons_succ, i64_w, i32_w]
                      rfl
                    refine take_ (i := 4) (N := some 45) (v := ?_) (a' := ?_) #[true, true, true, true, true, true, false, true, false, false, false, false] rfl rfl (take_ofW HT_.out HW_.out (by kernel_rfl)) (fun _ _ _ h => h) (Or.inl ⟨by rfl, ?_⟩) hHeld ?_ ?_
                    rotate_left
                    · rintro w' ⟨s0, s1, s2, s3, s4, s5, s6, s7, s8, s9, s10, s11, s12, s13, s14, s15⟩
                      go_simp
                      with_reducible rfl
                    rotate_left
                    · simp only [Act.put, List.setIfInBounds_toArray, List.set_cons_zero, List.set_cons_succ, i64_w, i32_w]
                      rfl
                    refine take_ (i := 6) (N := some 47) (v := ?_) (a' := ?_) #[true, true, true, true, true, true, true, true, false, false, false, false] rfl rfl (take_ofW HT_.out HW_.out (by kernel_rfl)) (fun _ _ _ h => h) (Or.inl ⟨by rfl, ?_⟩) hHeld ?_ ?_
                    rotate_left
                    · rintro w' ⟨s0, s1, s2, s3, s4, s5, s6, s7, s8, s9, s10, s11, s12, s13, s14, s15⟩
                      go_simp
                      with_reducible rfl
                    rotate_left
                    · simp only [Act.put, List.setIfInBounds_toArray, List.set_cons_zero, List.set_cons_succ, i64_w, i32_w]
                      rfl
                    refine pure_ (i := 8) (N := some 49) (v := ?_) (a' := ?_) #[true, true, true, true, true, true, true, true, true, false, false, false] rfl rfl (any_of HT_.out (by kernel_rfl)) (fun _ _ _ h => h) (Or.inl ⟨by rfl, ?_⟩) ?_ ?_
                    rotate_left
                    · intro w'
                      go_simp
                      with_reducible rfl
                    rotate_left
                    · simp only [Act.put, List.setIfInBounds_toArray, List.set_cons_zero, List.set_cons_succ, i64_w, i32_w]
                      rfl
                    refine take_ (i := 9) (N := some 50) (v := ?_) (a' := ?_) #[true, true, true, true, true, true, true, true, true, true, false, false] rfl rfl (take_ofW HT_.out HW_.out (by kernel_rfl)) (fun _ _ _ h => h) (Or.inl ⟨by rfl, ?_⟩) hHeld ?_ ?_
                    rotate_left
                    · rintro w' ⟨s0, s1, s2, s3, s4, s5, s6, s7, s8, s9, s10, s11, s12, s13, s14, s15⟩
                      go_simp
                      with_reducible rfl
                    rotate_left
                    · simp only [Act.put, List.setIfInBounds_toArray, List.set_cons_zero, List.set_cons_succ, i64_w, i32_w]
                      rfl
                    refine one_ (i := 10) (N := some 51) #[true, true, true, true, true, true, true, true, true, true, true, false] rfl rfl (one_of HT_.out (by kernel_rfl)) (by decide) (fun K hK => ?_)
                    refine goes_ Try.func16 (by kernel_rfl) rfl #[.agg #[.int .i64 ((rd_T24 l0_3 x5_2).f0), .int .i64 ((rd_T24 l0_3 x5_2).f1), .string ((rd_T24 l0_3 x5_2).f2), .slice A103_3 ((rd_T24 l0_3 x5_2).f3).length c103_3], .agg #[.int .i64 ((rd_T24 l1_3 x5_2).f0), .int .i64 ((rd_T24 l1_3 x5_2).f1), .string ((rd_T24 l1_3 x5_2).f2), .slice A104_3 ((rd_T24 l1_3 x5_2).f3).length c104_3]] (by rfl) rfl rfl (by (try simp only [List.map_toArray, List.map_cons, List.map_nil]); first | done | rfl | (simp only [List.length_drop, List.length_take]; rfl)) ?_
                    with_reducible refine (ih k2 (by have := HJ2.out; have := HK2.out; omega) ((rd_T24 l0_3 x5_2).f0) ((rd_T24 l0_3 x5_2).f1) ((rd_T24 l0_3 x5_2).f2) _ _ ((rd_T24 l0_3 x5_2).f3) ((rd_T24 l1_3 x5_2).f0) ((rd_T24 l1_3 x5_2).f1) ((rd_T24 l1_3 x5_2).f2) _ _ ((rd_T24 l1_3 x5_2).f3) true _ ?side1 ?side2 ?side3 ?side4 A25.out).mono ?_
                    (case side1 => repeat (first | exact (Kd.C_below HR103_3.out HB.out) | (with_reducible refine Kd.C_alloc ?_ _) | (with_reducible refine Kd.C_drewN ?_ _) | (with_reducible refine Kd.C_drew ?_)))
                    (case side2 => exact HC103_3.out)
                    (case side3 => repeat (first | exact (Kd.C_below HR104_3.out HB.out) | (with_reducible refine Kd.C_alloc ?_ _) | (with_reducible refine Kd.C_drewN ?_ _) | (with_reducible refine Kd.C_drew ?_)))
                    (case side4 => exact HC104_3.out)
                    rintro e w30 ⟨rfl, hb⟩
                    refine ⟨_, rfl, ?_⟩
                    have n0_ := Aside0.mk (blk_below (g := gb101) (o := .cells #[.int .i64 a0_0, .int .i64 a0_1, .string a0_2, .slice (some ad103) l0_3.length c0_3] 24 (0, 0)) (by (with_reducible repeat (first | refine blk_drewN ?_ _ | refine blk_drew ?_ | refine blk_alloc ?_ _)); exact BK101.out) hb)
                    have n1_ := Aside0.mk (blk_below (g := gb102) (o := .cells #[.int .i64 a1_0, .int .i64 a1_1, .string a1_2, .slice (some ad104) l1_3.length c1_3] 24 (0, 0)) (by (with_reducible repeat (first | refine blk_drewN ?_ _ | refine blk_drew ?_ | refine blk_alloc ?_ _)); exact BK102.out) hb)
                    have n2_ := Aside0.mk (below_step (by repeat (first | (with_reducible first | exact HB.out | apply below_alloc | apply pw_below_drewN | apply below_drew1 | refine below_set ?_ GE101.out | refine below_set ?_ GE102.out) | exact HB.out)) hb)
                    clear BK101
                    clear BK102
                    clear HB
                    have BK101 := n0_
                    have BK102 := n1_
                    have HB := n2_
                    clear n0_ n1_ n2_
                    (try clear hb)
                    (try clear hb2)
                    (try clear hk)
                    (try clear hi)
                    refine hK.out _ _ ⟨(blk_cell BK101.out 0).trans rfl, (blk_cell BK101.out 1).trans rfl, (blk_cell BK101.out 2).trans rfl, (blk_cell BK101.out 3).trans rfl, (blk_cell BK102.out 0).trans rfl, (blk_cell BK102.out 1).trans rfl, (blk_cell BK102.out 2).trans rfl, (blk_cell BK102.out 3).trans rfl, ((HB.out.cell (World.block_lt_of_cell? w _ hw103_0)).trans hw103_0), ((HB.out.cell (World.block_lt_of_cell? w _ hw103_1)).trans hw103_1), ((HB.out.cell (World.block_lt_of_cell? w _ hw103_2)).trans hw103_2), ((HB.out.cell (World.block_lt_of_cell? w _ hw103_3)).trans hw103_3), ((HB.out.cell (World.block_lt_of_cell? w _ hw104_0)).trans hw104_0), ((HB.out.cell (World.block_lt_of_cell? w _ hw104_1)).trans hw104_1), ((HB.out.cell (World.block_lt_of_cell? w _ hw104_2)).trans hw104_2), ((HB.out.cell (World.block_lt_of_cell? w _ hw104_3)).trans hw104_3)⟩ (fun hHeld => ?_)
                    clear hK K
                    refine norm_ (a' := ?_) ?_ ?_
                    rotate_left
                    · show Act.put _ (some 51) _ = _
                      simp only [Act.put, List.setIfInBounds_toArray, List.set_cons_zero, List.set_cons_succ, i64_w, i32_w]
                      rfl
                    refine pure_ (i := 11) (N := some 52) (v := ?_) (a' := ?_) #[true, true, true, true, true, true, true, true, true, true, true, true] rfl rfl (any_of HT_.out (by kernel_rfl)) (fun _ _ _ h => h) (Or.inl ⟨by rfl, ?_⟩) ?_ ?_
                    rotate_left
                    · intro w'
                      go_simp
                      with_reducible rfl
                    rotate_left
                    · simp only [Act.put, List.setIfInBounds_toArray, List.set_cons_zero, List.set_cons_succ, i64_w, i32_w]
                      rfl
                    refine done_ (done_of HT_.out (by kernel_rfl)) ?_
                    try go_wp2
                    go_roundg k2
                    case measure => have := HJ2.out; have := HK2.out; omega
                    case rel => exact ⟨(wrap64 (x5_2 + 1)), (by first | rfl | (simp; done) | (simp [*]; done)), H', ⟨by have := HJ2.out; have := HK2.out; omega⟩, ⟨by (with_reducible repeat (first | refine blk_drewN ?_ _ | refine blk_drew ?_ | refine blk_alloc ?_ _)); exact BK101.out⟩, ⟨by (with_reducible repeat (first | refine blk_drewN ?_ _ | refine blk_drew ?_ | refine blk_alloc ?_ _)); exact BK102.out⟩, ⟨by repeat (first | (with_reducible first | exact HB.out | apply below_alloc | apply pw_below_drewN | apply below_drew1 | refine below_set ?_ GE101.out | refine below_set ?_ GE102.out) | exact HB.out)⟩⟩
                  · replace c26 := Bool.eq_false_iff.mpr c26
                    subst c26
                    have H1 : (some false) = some r := by rw [if_neg (show ¬ (false = true) by decide)] at H; exact H
                    clear H
                    have H := H1
                    clear H1
                    obtain rfl := Option.some.inj H
                    have hnb31 := NB101_102.out
                    have hnc31 := NB102_101.out
                    have hcz32_0 : wr.cell? ⟨gb101, 0, none⟩ = some (.int .i64 a0_0) := (blk_cell BK101.out 0).trans rfl
                    have hcz32_1 : wr.cell? ⟨gb101, 1, none⟩ = some (.int .i64 a0_1) := (blk_cell BK101.out 1).trans rfl
                    have hcz32_2 : wr.cell? ⟨gb101, 2, none⟩ = some (.string a0_2) := (blk_cell BK101.out 2).trans rfl
                    have hcz32_3 : wr.cell? ⟨gb101, 3, none⟩ = some (.slice A0_3 l0_3.length c0_3) := (blk_cell BK101.out 3).trans rfl
                    have hfz32_0 := blk_frozen BK101.out 0
                    have hfz32_1 := blk_frozen BK101.out 1
                    have hfz32_2 := blk_frozen BK101.out 2
                    have hfz32_3 := blk_frozen BK101.out 3
                    try go_wp2
                    have n0_ := Aside0.mk (blk_drew BK101.out)
                    have n1_ := Aside0.mk (blk_drew BK102.out)
                    have n2_ := Aside0.mk (below_drew1 HB.out)
                    clear BK101
                    clear BK102
                    clear HB
                    have BK101 := n0_
                    have BK102 := n1_
                    have HB := n2_
                    clear n0_ n1_ n2_
                    have p103 : 0 ≤ (x5_2 : Int) := of_decide_eq_true (by first | (with_reducible assumption) | assumption)
                    have q103 : x5_2 < (l0_3.length : Int) := of_decide_eq_true (by first | (with_reducible assumption) | assumption)
                    obtain ⟨ad103, A103_3, c103_3, e103, hx103_0, hx103_1, hx103_2, hx103_3, hl103_3, hi103_3⟩ := at_T24 HR0_3.out x5_2 p103 q103
                    have hw103_3 := hx103_3
                    have hw103_2 := hx103_2
                    have hw103_1 := hx103_1
                    have hw103_0 := hx103_0
                    cases e103
                    replace hx103_0 := (HB.out.cell (World.block_lt_of_cell? w _ hx103_0)).trans hx103_0
                    replace hx103_1 := (HB.out.cell (World.block_lt_of_cell? w _ hx103_1)).trans hx103_1
                    replace hx103_2 := (HB.out.cell (World.block_lt_of_cell? w _ hx103_2)).trans hx103_2
                    replace hx103_3 := (HB.out.cell (World.block_lt_of_cell? w _ hx103_3)).trans hx103_3
                    have HR103_3 := Aside0.mk hi103_3
                    have HC103_3 := Aside0.mk hl103_3
                    clear hi103_3 hl103_3
                    replace p103 := eq_true p103
                    replace q103 := eq_true q103
                    have p104 : 0 ≤ (x5_2 : Int) := of_decide_eq_true (by first | (with_reducible assumption) | assumption)
                    have q104 : x5_2 < (l1_3.length : Int) := of_decide_eq_true (by first | (with_reducible assumption) | assumption)
                    obtain ⟨ad104, A104_3, c104_3, e104, hx104_0, hx104_1, hx104_2, hx104_3, hl104_3, hi104_3⟩ := at_T24 HR1_3.out x5_2 p104 q104
                    have hw104_3 := hx104_3
                    have hw104_2 := hx104_2
                    have hw104_1 := hx104_1
                    have hw104_0 := hx104_0
                    cases e104
                    replace hx104_0 := (HB.out.cell (World.block_lt_of_cell? w _ hx104_0)).trans hx104_0
                    replace hx104_1 := (HB.out.cell (World.block_lt_of_cell? w _ hx104_1)).trans hx104_1
                    replace hx104_2 := (HB.out.cell (World.block_lt_of_cell? w _ hx104_2)).trans hx104_2
                    replace hx104_3 := (HB.out.cell (World.block_lt_of_cell? w _ hx104_3)).trans hx104_3
                    have HR104_3 := Aside0.mk hi104_3
                    have HC104_3 := Aside0.mk hl104_3
                    clear hi104_3 hl104_3
                    replace p104 := eq_true p104
                    replace q104 := eq_true q104
                    refine start_ (n := 12) (S := fun w' => w'.cell? ⟨gb101, 0, none⟩ = some (.int .i64 a0_0) ∧ w'.cell? ⟨gb101, 1, none⟩ = some (.int .i64 a0_1) ∧ w'.cell? ⟨gb101, 2, none⟩ = some (.string a0_2) ∧ w'.cell? ⟨gb101, 3, none⟩ = some (.slice (some ad103) l0_3.length c0_3) ∧ w'.cell? ⟨gb102, 0, none⟩ = some (.int .i64 a1_0) ∧ w'.cell? ⟨gb102, 1, none⟩ = some (.int .i64 a1_1) ∧ w'.cell? ⟨gb102, 2, none⟩ = some (.string a1_2) ∧ w'.cell? ⟨gb102, 3, none⟩ = some (.slice (some ad104) l1_3.length c1_3) ∧ w'.cell? (ad103.add ((x5_2).toNat * 4)) = some (.int .i64 ((rd_T24 l0_3 x5_2).f0)) ∧ w'.cell? ⟨(ad103.add ((x5_2).toNat * 4)).block, (ad103.add ((x5_2).toNat * 4)).off + 1, none⟩ = some (.int .i64 ((rd_T24 l0_3 x5_2).f1)) ∧ w'.cell? ⟨(ad103.add ((x5_2).toNat * 4)).block, (ad103.add ((x5_2).toNat * 4)).off + 2, none⟩ = some (.string ((rd_T24 l0_3 x5_2).f2)) ∧ w'.cell? ⟨(ad103.add ((x5_2).toNat * 4)).block, (ad103.add ((x5_2).toNat * 4)).off + 3, none⟩ = some (.slice A103_3 ((rd_T24 l0_3 x5_2).f3).length c103_3) ∧ w'.cell? (ad104.add ((x5_2).toNat * 4)) = some (.int .i64 ((rd_T24 l1_3 x5_2).f0)) ∧ w'.cell? ⟨(ad104.add ((x5_2).toNat * 4)).block, (ad104.add ((x5_2).toNat * 4)).off + 1, none⟩ = some (.int .i64 ((rd_T24 l1_3 x5_2).f1)) ∧ w'.cell? ⟨(ad104.add ((x5_2).toNat * 4)).block, (ad104.add ((x5_2).toNat * 4)).off + 2, none⟩ = some (.string ((rd_T24 l1_3 x5_2).f2)) ∧ w'.cell? ⟨(ad104.add ((x5_2).toNat * 4)).block, (ad104.add ((x5_2).toNat * 4)).off + 3, none⟩ = some (.slice A104_3 ((rd_T24 l1_3 x5_2).f3).length c104_3)) (ds := []) #[false, false, false, false, false, false, false, false, false, false, false, false] (by kernel_rfl) rfl rfl ⟨(blk_cell BK101.out 0).trans rfl, (blk_cell BK101.out 1).trans rfl, (blk_cell BK101.out 2).trans rfl, (blk_cell BK101.out 3).trans rfl, (blk_cell BK102.out 0).trans rfl, (blk_cell BK102.out 1).trans rfl, (blk_cell BK102.out 2).trans rfl, (blk_cell BK102.out 3).trans rfl, ((HB.out.cell (World.block_lt_of_cell? w _ hw103_0)).trans hw103_0), ((HB.out.cell (World.block_lt_of_cell? w _ hw103_1)).trans hw103_1), ((HB.out.cell (World.block_lt_of_cell? w _ hw103_2)).trans hw103_2), ((HB.out.cell (World.block_lt_of_cell? w _ hw103_3)).trans hw103_3), ((HB.out.cell (World.block_lt_of_cell? w _ hw104_0)).trans hw104_0), ((HB.out.cell (World.block_lt_of_cell? w _ hw104_1)).trans hw104_1), ((HB.out.cell (World.block_lt_of_cell? w _ hw104_2)).trans hw104_2), ((HB.out.cell (World.block_lt_of_cell? w _ hw104_3)).trans hw104_3)⟩ (fun hHeld => ?_); refine with_tabW sizarref01_Same.tab6 sizarref01_Same.bits6 (fun HT_ HW_ => ?_)
                    generalize wr.drew = w33 at BK101 BK102 HB HR103_3 HR104_3 hx103_0 hx103_1 hx103_2 hx103_3 hx104_0 hx104_1 hx104_2 hx104_3 hHeld ⊢
                    refine pure_ (i := 0) (N := some 41) (v := ?_) (a' := ?_) #[true, false, false, false, false, false, false, false, false, false, false, false] rfl rfl (any_of HT_.out (by kernel_rfl)) (fun _ _ _ h => h) (Or.inl ⟨by rfl, ?_⟩) ?_ ?_
                    rotate_left
                    · intro w'
                      go_simp
                      with_reducible rfl
                    rotate_left
                    · simp only [Act.put, List.setIfInBounds_toArray, List.set_cons_zero, List.set_cons_succ, i64_w, i32_w]
                      rfl
                    refine pure_ (i := 2) (N := some 43) (v := ?_) (a' := ?_) #[true, false, true, false, false, false, false, false, false, false, false, false] rfl rfl (any_of HT_.out (by kernel_rfl)) (fun _ _ _ h => h) (Or.inl ⟨by rfl, ?_⟩) ?_ ?_
                    rotate_left
                    · intro w'
                      go_simp
                      with_reducible rfl
                    rotate_left
                    · simp only [Act.put, List.setIfInBounds_toArray, List.set_cons_zero, List.set_cons_succ, i64_w, i32_w]
                      rfl
                    refine pure_ (i := 5) (N := some 46) (v := ?_) (a' := ?_) #[true, false, true, false, false, true, false, false, false, false, false, false] rfl rfl (any_of HT_.out (by kernel_rfl)) (fun _ _ _ h => h) (Or.inl ⟨by rfl, ?_⟩) ?_ ?_
                    rotate_left
                    · intro w'
                      go_simp
                      with_reducible rfl
                    rotate_left
                    · simp only [Act.put, List.setIfInBounds_toArray, List.set_cons_zero, List.set_cons_succ, i64_w, i32_w]
                      rfl
                    refine pure_ (i := 7) (N := some 48) (v := ?_) (a' := ?_) #[true, false, true, false, false, true, false, true, false, false, false, false] rfl rfl (any_of HT_.out (by kernel_rfl)) (fun _ _ _ h => h) (Or.inl ⟨by rfl, ?_⟩) ?_ ?_
                    rotate_left
                    · intro w'
                      go_simp
                      with_reducible rfl
                    rotate_left
                    · simp only [Act.put, List.setIfInBounds_toArray, List.set_cons_zero, List.set_cons_succ, i64_w, i32_w]
                      rfl
                    refine take_ (i := 1) (N := some 42) (v := ?_) (a' := ?_) #[true, true, true, false, false, true, false, true, false, false, false, false] rfl rfl (take_ofW HT_.out HW_.out (by kernel_rfl)) (fun _ _ _ h => h) (Or.inl ⟨by rfl, ?_⟩) hHeld ?_ ?_
                    rotate_left
                    · rintro w' ⟨s0, s1, s2, s3, s4, s5, s6, s7, s8, s9, s10, s11, s12, s13, s14, s15⟩
                      go_simp
                      with_reducible rfl
                    rotate_left
                    · simp only [Act.put, List.setIfInBounds_toArray, List.set_cons_zero, List.set_cons_succ, i64_w, i32_w]
                      rfl
                    refine pure_ (i := 3) (N := some 44) (v := ?_) (a' := ?_) #[true, true, true, true, false, true, false, true, false, false, false, false] rfl rfl (any_of HT_.out (by kernel_rfl)) (fun _ _ _ h => h) (Or.inl ⟨by rfl, ?_⟩) ?_ ?_
                    rotate_left
                    · intro w'
                      go_simp
                      with_reducible rfl
                    rotate_left
                    · simp only [Act.put, List.setIfInBounds_toArray, List.set_cons_zero, List.set_cons_succ, i64_w, i32_w]
                      rfl
                    refine take_ (i := 4) (N := some 45) (v := ?_) (a' := ?_) #[true, true, true, true, true, true, false, true, false, false, false, false] rfl rfl (take_ofW HT_.out HW_.out (by kernel_rfl)) (fun _ _ _ h => h) (Or.inl ⟨by rfl, ?_⟩) hHeld ?_ ?_
                    rotate_left
                    · rintro w' ⟨s0, s1, s2, s3, s4, s5, s6, s7, s8, s9, s10, s11, s12, s13, s14, s15⟩
                      go_simp
                      with_reducible rfl
                    rotate_left
                    · simp only [Act.put, List.setIfInBounds_toArray, List.set_cons_zero, List.set_cons_succ, i64_w, i32_w]
                      rfl
                    refine take_ (i := 6) (N := some 47) (v := ?_) (a' := ?_) #[true, true, true, true, true, true, true, true, false, false, false, false] rfl rfl (take_ofW HT_.out HW_.out (by kernel_rfl)) (fun _ _ _ h => h) (Or.inl ⟨by rfl, ?_⟩) hHeld ?_ ?_
                    rotate_left
                    · rintro w' ⟨s0, s1, s2, s3, s4, s5, s6, s7, s8, s9, s10, s11, s12, s13, s14, s15⟩
                      go_simp
                      with_reducible rfl
                    rotate_left
                    · simp only [Act.put, List.setIfInBounds_toArray, List.set_cons_zero, List.set_cons_succ, i64_w, i32_w]
                      rfl
                    refine pure_ (i := 8) (N := some 49) (v := ?_) (a' := ?_) #[true, true, true, true, true, true, true, true, true, false, false, false] rfl rfl (any_of HT_.out (by kernel_rfl)) (fun _ _ _ h => h) (Or.inl ⟨by rfl, ?_⟩) ?_ ?_
                    rotate_left
                    · intro w'
                      go_simp
                      with_reducible rfl
                    rotate_left
                    · simp only [Act.put, List.setIfInBounds_toArray, List.set_cons_zero, List.set_cons_succ, i64_w, i32_w]
                      rfl
                    refine take_ (i := 9) (N := some 50) (v := ?_) (a' := ?_) #[true, true, true, true, true, true, true, true, true, true, false, false] rfl rfl (take_ofW HT_.out HW_.out (by kernel_rfl)) (fun _ _ _ h => h) (Or.inl ⟨by rfl, ?_⟩) hHeld ?_ ?_
                    rotate_left
                    · rintro w' ⟨s0, s1, s2, s3, s4, s5, s6, s7, s8, s9, s10, s11, s12, s13, s14, s15⟩
                      go_simp
                      with_reducible rfl
                    rotate_left
                    · simp only [Act.put, List.setIfInBounds_toArray, List.set_cons_zero, List.set_cons_succ, i64_w, i32_w]
                      rfl
                    refine one_ (i := 10) (N := some 51) #[true, true, true, true, true, true, true, true, true, true, true, false] rfl rfl (one_of HT_.out (by kernel_rfl)) (by decide) (fun K hK => ?_)
                    refine goes_ Try.func16 (by kernel_rfl) rfl #[.agg #[.int .i64 ((rd_T24 l0_3 x5_2).f0), .int .i64 ((rd_T24 l0_3 x5_2).f1), .string ((rd_T24 l0_3 x5_2).f2), .slice A103_3 ((rd_T24 l0_3 x5_2).f3).length c103_3], .agg #[.int .i64 ((rd_T24 l1_3 x5_2).f0), .int .i64 ((rd_T24 l1_3 x5_2).f1), .string ((rd_T24 l1_3 x5_2).f2), .slice A104_3 ((rd_T24 l1_3 x5_2).f3).length c104_3]] (by rfl) rfl rfl (by (try simp only [List.map_toArray, List.map_cons, List.map_nil]); first | done | rfl | (simp only [List.length_drop, List.length_take]; rfl)) ?_
                    with_reducible refine (ih k2 (by have := HJ2.out; have := HK2.out; omega) ((rd_T24 l0_3 x5_2).f0) ((rd_T24 l0_3 x5_2).f1) ((rd_T24 l0_3 x5_2).f2) _ _ ((rd_T24 l0_3 x5_2).f3) ((rd_T24 l1_3 x5_2).f0) ((rd_T24 l1_3 x5_2).f1) ((rd_T24 l1_3 x5_2).f2) _ _ ((rd_T24 l1_3 x5_2).f3) false _ ?side1 ?side2 ?side3 ?side4 A25.out).mono ?_
                    (case side1 => repeat (first | exact (Kd.C_below HR103_3.out HB.out) | (with_reducible refine Kd.C_alloc ?_ _) | (with_reducible refine Kd.C_drewN ?_ _) | (with_reducible refine Kd.C_drew ?_)))
                    (case side2 => exact HC103_3.out)
                    (case side3 => repeat (first | exact (Kd.C_below HR104_3.out HB.out) | (with_reducible refine Kd.C_alloc ?_ _) | (with_reducible refine Kd.C_drewN ?_ _) | (with_reducible refine Kd.C_drew ?_)))
                    (case side4 => exact HC104_3.out)
                    rintro e w34 ⟨rfl, hb⟩
                    refine ⟨_, rfl, ?_⟩
                    have n0_ := Aside0.mk (blk_below (g := gb101) (o := .cells #[.int .i64 a0_0, .int .i64 a0_1, .string a0_2, .slice (some ad103) l0_3.length c0_3] 24 (0, 0)) (by (with_reducible repeat (first | refine blk_drewN ?_ _ | refine blk_drew ?_ | refine blk_alloc ?_ _)); exact BK101.out) hb)
                    have n1_ := Aside0.mk (blk_below (g := gb102) (o := .cells #[.int .i64 a1_0, .int .i64 a1_1, .string a1_2, .slice (some ad104) l1_3.length c1_3] 24 (0, 0)) (by (with_reducible repeat (first | refine blk_drewN ?_ _ | refine blk_drew ?_ | refine blk_alloc ?_ _)); exact BK102.out) hb)
                    have n2_ := Aside0.mk (below_step (by repeat (first | (with_reducible first | exact HB.out | apply below_alloc | apply pw_below_drewN | apply below_drew1 | refine below_set ?_ GE101.out | refine below_set ?_ GE102.out) | exact HB.out)) hb)
                    clear BK101
                    clear BK102
                    clear HB
                    have BK101 := n0_
                    have BK102 := n1_
                    have HB := n2_
                    clear n0_ n1_ n2_
                    (try clear hb)
                    (try clear hb2)
                    (try clear hk)
                    (try clear hi)
                    refine hK.out _ _ ⟨(blk_cell BK101.out 0).trans rfl, (blk_cell BK101.out 1).trans rfl, (blk_cell BK101.out 2).trans rfl, (blk_cell BK101.out 3).trans rfl, (blk_cell BK102.out 0).trans rfl, (blk_cell BK102.out 1).trans rfl, (blk_cell BK102.out 2).trans rfl, (blk_cell BK102.out 3).trans rfl, ((HB.out.cell (World.block_lt_of_cell? w _ hw103_0)).trans hw103_0), ((HB.out.cell (World.block_lt_of_cell? w _ hw103_1)).trans hw103_1), ((HB.out.cell (World.block_lt_of_cell? w _ hw103_2)).trans hw103_2), ((HB.out.cell (World.block_lt_of_cell? w _ hw103_3)).trans hw103_3), ((HB.out.cell (World.block_lt_of_cell? w _ hw104_0)).trans hw104_0), ((HB.out.cell (World.block_lt_of_cell? w _ hw104_1)).trans hw104_1), ((HB.out.cell (World.block_lt_of_cell? w _ hw104_2)).trans hw104_2), ((HB.out.cell (World.block_lt_of_cell? w _ hw104_3)).trans hw104_3)⟩ (fun hHeld => ?_)
                    clear hK K
                    refine norm_ (a' := ?_) ?_ ?_
                    rotate_left
                    · show Act.put _ (some 51) _ = _
                      simp only [Act.put, List.setIfInBounds_toArray, List.set_cons_zero, List.set_cons_succ, i64_w, i32_w]
                      rfl
                    refine pure_ (i := 11) (N := some 52) (v := ?_) (a' := ?_) #[true, true, true, true, true, true, true, true, true, true, true, true] rfl rfl (any_of HT_.out (by kernel_rfl)) (fun _ _ _ h => h) (Or.inl ⟨by rfl, ?_⟩) ?_ ?_
                    rotate_left
                    · intro w'
                      go_simp
                      with_reducible rfl
                    rotate_left
                    · simp only [Act.put, List.setIfInBounds_toArray, List.set_cons_zero, List.set_cons_succ, i64_w, i32_w]
                      rfl
                    refine done_ (done_of HT_.out (by kernel_rfl)) ?_
                    try go_wp2
                    go_ret
                    exact ⟨by first | rfl | (simp [errW_none, errW_some] <;> rfl) | (simp [*, errW_none, errW_some] <;> rfl), by repeat (first | (with_reducible first | exact HB.out | apply below_alloc | apply pw_below_drewN | apply below_drew1 | refine below_set ?_ GE101.out | refine below_set ?_ GE102.out) | exact HB.out)⟩
                · rw [if_neg c24] at H
                  exact absurd H (by simp)
              · rw [if_neg c23] at H
                exact absurd H (by simp)
            · rw [if_neg c22] at H
              have c22b0 : decide (x5_2 < (l0_3.length : Int)) = false := decide_eq_false c22
              clear c22
              obtain rfl := Option.some.inj H
              have hnb35 := NB101_102.out
              have hnc35 := NB102_101.out
              have hcz36_0 : wr.cell? ⟨gb101, 0, none⟩ = some (.int .i64 a0_0) := (blk_cell BK101.out 0).trans rfl
              have hcz36_1 : wr.cell? ⟨gb101, 1, none⟩ = some (.int .i64 a0_1) := (blk_cell BK101.out 1).trans rfl
              have hcz36_2 : wr.cell? ⟨gb101, 2, none⟩ = some (.string a0_2) := (blk_cell BK101.out 2).trans rfl
              have hcz36_3 : wr.cell? ⟨gb101, 3, none⟩ = some (.slice A0_3 l0_3.length c0_3) := (blk_cell BK101.out 3).trans rfl
              have hfz36_0 := blk_frozen BK101.out 0
              have hfz36_1 := blk_frozen BK101.out 1
              have hfz36_2 := blk_frozen BK101.out 2
              have hfz36_3 := blk_frozen BK101.out 3
              go_wp2
              go_ret
              exact ⟨by first | rfl | (simp [errW_none, errW_some] <;> rfl) | (simp [*, errW_none, errW_some] <;> rfl), by repeat (first | (with_reducible first | exact HB.out | apply below_alloc | apply pw_below_drewN | apply below_drew1 | refine below_set ?_ GE101.out | refine below_set ?_ GE102.out) | exact HB.out)⟩

end Go.Proofs.Ytgnkjhppfenmaaa.Q
namespace Go.Proofs.Ytgnkjhppfenmaaa.Q
open Go.RowKit Go.Proofs.YtgnkjhppfenmaaaW.PrintWords Go.Proofs.YtgnkjhppfenmaaaW.PrintLast Go.Proofs.YtgnkjhppfenmaaaW.PrintMore
attribute [local go_sem] max2_int min2_int max_two min_two max_three min_three max_four min_four   -- for this text's walks alone
set_option linter.unusedVariables false
set_option linter.unusedSimpArgs false

/-! ### sizarlaw01_CodecDecodeSpec: function 4 -/
def sizarlaw01_CodecDecodeSpec.f (k : Nat) (l0 : List Int) : Option (Bool) := (sizarlaw01_sane.f).bind fun t101 => (if t101 = true then (if (l0.length : Int) > 2000 then (some true) else ((codec_Decode.f l0).bind fun bt102 => ((sizarref01_Decode.f l0).bind fun bt110 => ((sizarref01_Same.f k bt102.1 bt102.2.1 bt102.2.2.1 bt102.2.2.2.1 bt110.1 bt110.2.1 bt110.2.2.1 bt110.2.2.2.1).bind fun t118 => (if t118 = true then (some (bt102.2.2.2.2 == bt110.2.2.2.2)) else (none)))))) else (none))
theorem sizarlaw01_CodecDecodeSpec.mono : ∀ a0 k, LeO (sizarlaw01_CodecDecodeSpec.f k a0) (sizarlaw01_CodecDecodeSpec.f (k + 1) a0) := by
  intro a0 k
  unfold sizarlaw01_CodecDecodeSpec.f
  repeat' first
      | (with_reducible exact sizarref01_Same.mono _ _ _ _ _ _ _ _ _)
      | (with_reducible exact LeO.refl _)
      | (with_reducible exact LeO.none _)
      | (with_reducible refine LeO.ite ?_ ?_)
      | (with_reducible refine LeO.bind ?_ (fun _ => ?_))
      | exact sizarref01_Same.mono _ _ _ _ _ _ _ _ _
      | exact LeO.none _
      | refine LeO.ite ?_ ?_
      | refine LeO.bind ?_ (fun _ => ?_)
set_option maxHeartbeats 8000000 in
set_option maxRecDepth 100000 in
theorem sizarlaw01_CodecDecodeSpec.calls (k : Nat) (A0 : Option Addr) (c0 : Nat) (l0 : List Int) (r : Bool) (w : World) (hr0 : Kd.C (Kd.int .u8) w A0 l0.length l0) (hc0 : l0.length ≤ c0) (h : sizarlaw01_CodecDecodeSpec.f k l0 = some r) :
    Calls Try.prog 4 #[.slice A0 l0.length c0] w fun e w' => e = .returned (.bool r) ∧ Below w.heap.size w w' := by
  have hu24 := Try.underlying24
  have HR0 := Aside0.mk hr0
  have HC0 := Aside0.mk hc0
  clear hr0 hc0
  have HB := Aside0.mk (Below.refl w.heap.size w)
  have H : ((sizarlaw01_sane.f).bind fun t101 => (if t101 = true then (if (l0.length : Int) > 2000 then (some true) else ((codec_Decode.f l0).bind fun bt102 => ((sizarref01_Decode.f l0).bind fun bt110 => ((sizarref01_Same.f k bt102.1 bt102.2.1 bt102.2.2.1 bt102.2.2.2.1 bt110.1 bt110.2.1 bt110.2.2.1 bt110.2.2.2.1).bind fun t118 => (if t118 = true then (some (bt102.2.2.2.2 == bt110.2.2.2.2)) else (none)))))) else (none))) = some r := h
  clear h
  replace H := Option.bind_eq_some_iff.mp H
  obtain ⟨t101, A20, H⟩ := H
  replace H : (if t101 = true then (if (l0.length : Int) > 2000 then (some true) else ((codec_Decode.f l0).bind fun bt102 => ((sizarref01_Decode.f l0).bind fun bt110 => ((sizarref01_Same.f k bt102.1 bt102.2.1 bt102.2.2.1 bt102.2.2.2.1 bt110.1 bt110.2.1 bt110.2.2.1 bt110.2.2.2.1).bind fun t118 => (if t118 = true then (some (bt102.2.2.2.2 == bt110.2.2.2.2)) else (none)))))) else (none)) = some r := H
  have A2 := Aside0.mk A20
  clear A20
  by_cases c3 : t101 = true
  · subst c3
    have H1 : (if (l0.length : Int) > 2000 then (some true) else ((codec_Decode.f l0).bind fun bt102 => ((sizarref01_Decode.f l0).bind fun bt110 => ((sizarref01_Same.f k bt102.1 bt102.2.1 bt102.2.2.1 bt102.2.2.2.1 bt110.1 bt110.2.1 bt110.2.2.1 bt110.2.2.2.1).bind fun t118 => (if t118 = true then (some (bt102.2.2.2.2 == bt110.2.2.2.2)) else (none)))))) = some r := by rw [if_pos rfl] at H; exact H
    clear H
    have H := H1
    clear H1
    by_cases c4 : (l0.length : Int) > 2000
    · rw [if_pos c4] at H
      have c4b0 : decide (2000 < (l0.length : Int)) = true := decide_eq_true c4
      have c4b1 : decide (2000 < l0.length) = true := decide_eq_true (by omega)
      clear c4
      obtain rfl := Option.some.inj H
      go_enter Try.func4, Try.ntmps4
      go_wp2_with (first | ((with_reducible refine gate_callee (f := 6) rfl ?_); refine goesL_ (some 7) rfl rfl Try.func6 (by kernel_rfl) rfl #[] rfl (by (try simp only [List.map_toArray, List.map_cons, List.map_nil]); first | done | rfl | (simp only [List.length_drop, List.length_take]; rfl)) ?_; (with_reducible refine (sizarlaw01_sane.calls  true _ A2.out).mono ?_); rintro e w5 ⟨rfl, hb⟩; refine ⟨_, rfl, ?_⟩; have n0_ := Aside0.mk (below_step (by repeat (first | (with_reducible first | exact HB.out | apply below_alloc | apply pw_below_drewN | apply below_drew1) | exact HB.out)) hb); clear HB; have HB := n0_; clear n0_; (try clear hb); (try clear hb2); (try clear hk); (try clear hi)))
      go_ret
      exact ⟨by first | rfl | (simp [errW_none, errW_some] <;> rfl) | (simp [*, errW_none, errW_some] <;> rfl), by repeat (first | (with_reducible first | exact HB.out | apply below_alloc | apply pw_below_drewN | apply below_drew1) | exact HB.out)⟩
    · rw [if_neg c4] at H
      have c4b0 : decide (2000 < (l0.length : Int)) = false := decide_eq_false c4
      have c4b1 : decide (2000 < l0.length) = false := decide_eq_false (by omega)
      clear c4
      replace H := Option.bind_eq_some_iff.mp H
      obtain ⟨⟨t102, t103, t104, t105, t108⟩, A60, H⟩ := H
      replace H : ((sizarref01_Decode.f l0).bind fun bt110 => ((sizarref01_Same.f k t102 t103 t104 t105 bt110.1 bt110.2.1 bt110.2.2.1 bt110.2.2.2.1).bind fun t118 => (if t118 = true then (some (t108 == bt110.2.2.2.2)) else (none)))) = some r := H
      have A6 := Aside0.mk A60
      clear A60
      replace H := Option.bind_eq_some_iff.mp H
      obtain ⟨⟨t110, t111, t112, t113, t116⟩, A70, H⟩ := H
      replace H : ((sizarref01_Same.f k t102 t103 t104 t105 t110 t111 t112 t113).bind fun t118 => (if t118 = true then (some (t108 == t116)) else (none))) = some r := H
      have A7 := Aside0.mk A70
      clear A70
      replace H := Option.bind_eq_some_iff.mp H
      obtain ⟨t118, A80, H⟩ := H
      replace H : (if t118 = true then (some (t108 == t116)) else (none)) = some r := H
      have A8 := Aside0.mk A80
      clear A80
      by_cases c9 : t118 = true
      · subst c9
        have H1 : (some (t108 == t116)) = some r := by rw [if_pos rfl] at H; exact H
        clear H
        have H := H1
        clear H1
        obtain rfl := Option.some.inj H
        go_enter Try.func4, Try.ntmps4
        go_wp2_with (first | ((with_reducible refine gate_callee (f := 6) rfl ?_); refine goesL_ (some 7) rfl rfl Try.func6 (by kernel_rfl) rfl #[] rfl (by (try simp only [List.map_toArray, List.map_cons, List.map_nil]); first | done | rfl | (simp only [List.length_drop, List.length_take]; rfl)) ?_; (with_reducible refine (sizarlaw01_sane.calls  true _ A2.out).mono ?_); rintro e w10 ⟨rfl, hb⟩; refine ⟨_, rfl, ?_⟩; have n0_ := Aside0.mk (below_step (by repeat (first | (with_reducible first | exact HB.out | apply below_alloc | apply pw_below_drewN | apply below_drew1) | exact HB.out)) hb); clear HB; have HB := n0_; clear n0_; (try clear hb); (try clear hb2); (try clear hk); (try clear hi)) | ((with_reducible refine gate_callee (f := 14) rfl ?_); refine goesL_ (some 14) rfl rfl Try.func14 (by kernel_rfl) rfl #[.slice A0 l0.length c0] rfl (by (try simp only [List.map_toArray, List.map_cons, List.map_nil]); first | done | rfl | (simp only [List.length_drop, List.length_take]; rfl)) ?_; (with_reducible refine (codec_Decode.calls _ _ l0 t102 t103 t104 t105 t108 _ ?side1 ?side2 A6.out).mono ?_); (case side1 => repeat (first | exact (Kd.C_below HR0.out HB.out) | (with_reducible refine Kd.C_alloc ?_ _) | (with_reducible refine Kd.C_drewN ?_ _) | (with_reducible refine Kd.C_drew ?_))); (case side2 => exact HC0.out); rintro e w11 ⟨v106, rfl, ho0, hb⟩; refine ⟨_, rfl, ?_⟩; have n0_ := Aside0.mk (Kd.R_lower ho0 (below_size (by repeat (first | (with_reducible first | exact HB.out | apply below_alloc | apply pw_below_drewN | apply below_drew1) | exact HB.out)))); have n1_ := Aside0.mk (below_step (by repeat (first | (with_reducible first | exact HB.out | apply below_alloc | apply pw_below_drewN | apply below_drew1) | exact HB.out)) hb); clear HB; have HO107 := n0_; have HB := n1_; clear n0_ n1_; (try clear hb); (try clear hb2); (try clear hk); (try clear hi); (try clear ho0)) | ((with_reducible refine gate_dst (N := 3) rfl ?_); refine box_event ?hg (N := 3) ?hd (cs := #[.int .i64 0, .int .i64 0, .string (⟨#[]⟩ : ByteArray), .slice none 0 0]) (t := 24) ?hr ?_; (case hd => rfl); (case hg => rfl); (case hr => first | (go_simp; done) | (go_simp; rfl)); intro gb109 hg w12 hbox hb; have n0_ := Aside0.mk (Kd.R_below (Kd.R_elderB (by (with_reducible repeat (first | apply Kd.R_alloc | apply Kd.R_drewN | apply Kd.R_drew)); exact HO107.out) gb109 (Nat.le_of_eq hg.symm)) hb); have n1_ := Aside0.mk (below_step (by repeat (first | (with_reducible first | exact HB.out | apply below_alloc | apply pw_below_drewN | apply below_drew1) | exact HB.out)) hb); have n2_ := Aside0.mk (hbox); have n3_ := Aside0.mk ((by rw [hg]; exact (below_size (by repeat (first | (with_reducible first | exact HB.out | apply below_alloc | apply pw_below_drewN | apply below_drew1) | exact HB.out))) : w.heap.size ≤ gb109)); have n4_ := Aside0.mk ((by rw [hg]; exact (below_size (by repeat (first | (with_reducible first | exact HB.out | apply below_alloc | apply pw_below_drewN | apply below_drew1) | exact HB.out))) : w.heap.size ≤ gb109)); clear HO107; clear HB; have HO107 := n0_; have HB := n1_; have BK109 := n2_; have GW109 := n3_; have GE109 := n4_; clear n0_ n1_ n2_ n3_ n4_; clear hb hbox hg; have hcz13_0 : w12.cell? ⟨gb109, 0, none⟩ = some (.int .i64 0) := (blk_cell BK109.out 0).trans rfl; have hcz13_1 : w12.cell? ⟨gb109, 1, none⟩ = some (.int .i64 0) := (blk_cell BK109.out 1).trans rfl; have hcz13_2 : w12.cell? ⟨gb109, 2, none⟩ = some (.string (⟨#[]⟩ : ByteArray)) := (blk_cell BK109.out 2).trans rfl; have hcz13_3 : w12.cell? ⟨gb109, 3, none⟩ = some (.slice none 0 0) := (blk_cell BK109.out 3).trans rfl; have hfz13_0 := blk_frozen BK109.out 0; have hfz13_1 := blk_frozen BK109.out 1; have hfz13_2 := blk_frozen BK109.out 2; have hfz13_3 := blk_frozen BK109.out 3; obtain ⟨Ao14, co14, eo14⟩ := Kd.R_slice HO107.out; subst eo14) | ((with_reducible refine gate_callee (f := 15) rfl ?_); refine goesL_ (some 19) rfl rfl Try.func15 (by kernel_rfl) rfl #[.slice A0 l0.length c0] rfl (by (try simp only [List.map_toArray, List.map_cons, List.map_nil]); first | done | rfl | (simp only [List.length_drop, List.length_take]; rfl)) ?_; (with_reducible refine (sizarref01_Decode.calls _ _ l0 t110 t111 t112 t113 t116 _ ?side1 ?side2 A7.out).mono ?_); (case side1 => exact Kd.C_below HR0.out (by repeat (first | (with_reducible first | exact HB.out | apply below_alloc | apply pw_below_drewN | apply below_drew1 | refine below_set ?_ GE109.out) | exact HB.out))); (case side2 => exact HC0.out); rintro e w15 ⟨v114, rfl, ho0, hb⟩; refine ⟨_, rfl, ?_⟩; have n0_ := Aside0.mk (Kd.R_elder' (by (with_reducible repeat (first | apply Kd.R_alloc | apply Kd.R_drewN | apply Kd.R_drew)); exact (Kd.R_mono (Kd.R_far (p := ⟨gb109, 3, none⟩) (Kd.R_far (p := ⟨gb109, 2, none⟩) (Kd.R_far (p := ⟨gb109, 1, none⟩) (Kd.R_far (p := ⟨gb109, 0, none⟩) (Kd.R_mono HO107.out (fun k_ hk => (⟨hk, hk.2⟩ : _ ∧ k_ ≠ gb109))) (fun _ hk => hk.2) (.int .i64 t102)) (fun _ hk => hk.2) (.int .i64 t103)) (fun _ hk => hk.2) (.string t104)) (fun _ hk => hk.2) (.slice Ao14 t105.length co14)) (fun _ h_ => h_.1))) (Kd.R_base ho0) hb); have n1_ := Aside0.mk (Kd.R_lower (Kd.R_newB (Kd.R_new' ho0 (Kd.R_lt (by (with_reducible repeat (first | apply Kd.R_alloc | apply Kd.R_drewN | apply Kd.R_drew)); exact (Kd.R_mono (Kd.R_far (p := ⟨gb109, 3, none⟩) (Kd.R_far (p := ⟨gb109, 2, none⟩) (Kd.R_far (p := ⟨gb109, 1, none⟩) (Kd.R_far (p := ⟨gb109, 0, none⟩) (Kd.R_mono HO107.out (fun k_ hk => (⟨hk, hk.2⟩ : _ ∧ k_ ≠ gb109))) (fun _ hk => hk.2) (.int .i64 t102)) (fun _ hk => hk.2) (.int .i64 t103)) (fun _ hk => hk.2) (.string t104)) (fun _ hk => hk.2) (.slice Ao14 t105.length co14)) (fun _ h_ => h_.1))))) (g := gb109) (o := .cells #[.int .i64 t102, .int .i64 t103, .string t104, .slice Ao14 t105.length co14] 24 (0, 0)) (by (with_reducible repeat (first | refine blk_drewN ?_ _ | refine blk_drew ?_ | refine blk_alloc ?_ _)); refine blk_put (cs := #[.int .i64 t102, .int .i64 t103, .string t104, .slice none 0 0]) ?_ 3 _ rfl; (with_reducible repeat (first | refine blk_drewN ?_ _ | refine blk_drew ?_ | refine blk_alloc ?_ _)); refine blk_put (cs := #[.int .i64 t102, .int .i64 t103, .string (⟨#[]⟩ : ByteArray), .slice none 0 0]) ?_ 2 _ rfl; (with_reducible repeat (first | refine blk_drewN ?_ _ | refine blk_drew ?_ | refine blk_alloc ?_ _)); refine blk_put (cs := #[.int .i64 t102, .int .i64 0, .string (⟨#[]⟩ : ByteArray), .slice none 0 0]) ?_ 1 _ rfl; (with_reducible repeat (first | refine blk_drewN ?_ _ | refine blk_drew ?_ | refine blk_alloc ?_ _)); refine blk_put (cs := #[.int .i64 0, .int .i64 0, .string (⟨#[]⟩ : ByteArray), .slice none 0 0]) ?_ 0 _ rfl; (with_reducible repeat (first | refine blk_drewN ?_ _ | refine blk_drew ?_ | refine blk_alloc ?_ _)); exact BK109.out)) (below_size (by repeat (first | (with_reducible first | exact HB.out | apply below_alloc | apply pw_below_drewN | apply below_drew1 | refine below_set ?_ GE109.out) | exact HB.out)))); have n2_ := Aside0.mk (blk_below (g := gb109) (o := .cells #[.int .i64 t102, .int .i64 t103, .string t104, .slice Ao14 t105.length co14] 24 (0, 0)) (by (with_reducible repeat (first | refine blk_drewN ?_ _ | refine blk_drew ?_ | refine blk_alloc ?_ _)); refine blk_put (cs := #[.int .i64 t102, .int .i64 t103, .string t104, .slice none 0 0]) ?_ 3 _ rfl; (with_reducible repeat (first | refine blk_drewN ?_ _ | refine blk_drew ?_ | refine blk_alloc ?_ _)); refine blk_put (cs := #[.int .i64 t102, .int .i64 t103, .string (⟨#[]⟩ : ByteArray), .slice none 0 0]) ?_ 2 _ rfl; (with_reducible repeat (first | refine blk_drewN ?_ _ | refine blk_drew ?_ | refine blk_alloc ?_ _)); refine blk_put (cs := #[.int .i64 t102, .int .i64 0, .string (⟨#[]⟩ : ByteArray), .slice none 0 0]) ?_ 1 _ rfl; (with_reducible repeat (first | refine blk_drewN ?_ _ | refine blk_drew ?_ | refine blk_alloc ?_ _)); refine blk_put (cs := #[.int .i64 0, .int .i64 0, .string (⟨#[]⟩ : ByteArray), .slice none 0 0]) ?_ 0 _ rfl; (with_reducible repeat (first | refine blk_drewN ?_ _ | refine blk_drew ?_ | refine blk_alloc ?_ _)); exact BK109.out) hb); have n3_ := Aside0.mk (below_step (by repeat (first | (with_reducible first | exact HB.out | apply below_alloc | apply pw_below_drewN | apply below_drew1 | refine below_set ?_ GE109.out) | exact HB.out)) hb); clear HO107; clear BK109; clear HB; have HO107 := n0_; have HO115 := n1_; have BK109 := n2_; have HB := n3_; clear n0_ n1_ n2_ n3_; (try clear hb); (try clear hb2); (try clear hk); (try clear hi); (try clear ho0)) | ((with_reducible refine gate_dst (N := 5) rfl ?_); refine box_event ?hg (N := 5) ?hd (cs := #[.int .i64 0, .int .i64 0, .string (⟨#[]⟩ : ByteArray), .slice none 0 0]) (t := 24) ?hr ?_; (case hd => rfl); (case hg => rfl); (case hr => first | (go_simp; done) | (go_simp; rfl)); intro gb117 hg w16 hbox hb; have n0_ := Aside0.mk (Kd.R_below (Kd.R_elderB (by (with_reducible repeat (first | apply Kd.R_alloc | apply Kd.R_drewN | apply Kd.R_drew)); exact HO107.out) gb117 (Nat.le_of_eq hg.symm)) hb); have n1_ := Aside0.mk (Kd.R_below (Kd.R_elderB (by (with_reducible repeat (first | apply Kd.R_alloc | apply Kd.R_drewN | apply Kd.R_drew)); exact HO115.out) gb117 (Nat.le_of_eq hg.symm)) hb); have n2_ := Aside0.mk (blk_below (g := gb109) (o := .cells #[.int .i64 t102, .int .i64 t103, .string t104, .slice Ao14 t105.length co14] 24 (0, 0)) (by (with_reducible repeat (first | refine blk_drewN ?_ _ | refine blk_drew ?_ | refine blk_alloc ?_ _)); exact BK109.out) hb); have n3_ := Aside0.mk (below_step (by repeat (first | (with_reducible first | exact HB.out | apply below_alloc | apply pw_below_drewN | apply below_drew1 | refine below_set ?_ GE109.out) | exact HB.out)) hb); have n4_ := Aside0.mk (hbox); have n5_ := Aside0.mk ((by rw [hg]; exact (below_size (by repeat (first | (with_reducible first | exact HB.out | apply below_alloc | apply pw_below_drewN | apply below_drew1 | refine below_set ?_ GE109.out) | exact HB.out))) : w.heap.size ≤ gb117)); have n6_ := Aside0.mk ((by rw [hg]; exact (below_size (by repeat (first | (with_reducible first | exact HB.out | apply below_alloc | apply pw_below_drewN | apply below_drew1 | refine below_set ?_ GE109.out) | exact HB.out))) : w.heap.size ≤ gb117)); have n7_ := Aside0.mk ((by rw [hg]; exact Nat.ne_of_lt (blk_lt (g := gb109) (o := .cells #[.int .i64 t102, .int .i64 t103, .string t104, .slice Ao14 t105.length co14] 24 (0, 0)) (by (with_reducible repeat (first | refine blk_drewN ?_ _ | refine blk_drew ?_ | refine blk_alloc ?_ _)); exact BK109.out)) : gb109 ≠ gb117)); have n8_ := Aside0.mk ((by rw [hg]; exact Nat.ne_of_gt (blk_lt (g := gb109) (o := .cells #[.int .i64 t102, .int .i64 t103, .string t104, .slice Ao14 t105.length co14] 24 (0, 0)) (by (with_reducible repeat (first | refine blk_drewN ?_ _ | refine blk_drew ?_ | refine blk_alloc ?_ _)); exact BK109.out)) : gb117 ≠ gb109)); clear HO107; clear HO115; clear BK109; clear HB; have HO107 := n0_; have HO115 := n1_; have BK109 := n2_; have HB := n3_; have BK117 := n4_; have GW117 := n5_; have GE117 := n6_; have NB109_117 := n7_; have NB117_109 := n8_; clear n0_ n1_ n2_ n3_ n4_ n5_ n6_ n7_ n8_; clear hb hbox hg; have hnb17 := NB117_109.out; have hnc17 := NB109_117.out; have hcz18_0 : w16.cell? ⟨gb117, 0, none⟩ = some (.int .i64 0) := (blk_cell BK117.out 0).trans rfl; have hcz18_1 : w16.cell? ⟨gb117, 1, none⟩ = some (.int .i64 0) := (blk_cell BK117.out 1).trans rfl; have hcz18_2 : w16.cell? ⟨gb117, 2, none⟩ = some (.string (⟨#[]⟩ : ByteArray)) := (blk_cell BK117.out 2).trans rfl; have hcz18_3 : w16.cell? ⟨gb117, 3, none⟩ = some (.slice none 0 0) := (blk_cell BK117.out 3).trans rfl; have hfz18_0 := blk_frozen BK117.out 0; have hfz18_1 := blk_frozen BK117.out 1; have hfz18_2 := blk_frozen BK117.out 2; have hfz18_3 := blk_frozen BK117.out 3; obtain ⟨Ao19, co19, eo19⟩ := Kd.R_slice HO115.out; subst eo19; have hcz20_0 : w16.cell? ⟨gb109, 0, none⟩ = some (.int .i64 t102) := (blk_cell BK109.out 0).trans rfl; have hcz20_1 : w16.cell? ⟨gb109, 1, none⟩ = some (.int .i64 t103) := (blk_cell BK109.out 1).trans rfl; have hcz20_2 : w16.cell? ⟨gb109, 2, none⟩ = some (.string t104) := (blk_cell BK109.out 2).trans rfl; have hcz20_3 : w16.cell? ⟨gb109, 3, none⟩ = some (.slice Ao14 t105.length co14) := (blk_cell BK109.out 3).trans rfl; have hfz20_0 := blk_frozen BK109.out 0; have hfz20_1 := blk_frozen BK109.out 1; have hfz20_2 := blk_frozen BK109.out 2; have hfz20_3 := blk_frozen BK109.out 3) | ((with_reducible refine gate_callee (f := 16) rfl ?_); refine goesL_ (some 24) rfl rfl Try.func16 (by kernel_rfl) rfl #[.agg #[.int .i64 t102, .int .i64 t103, .string t104, .slice Ao14 t105.length co14], .agg #[.int .i64 t110, .int .i64 t111, .string t112, .slice Ao19 t113.length co19]] rfl (by (try simp only [List.map_toArray, List.map_cons, List.map_nil]); first | done | rfl | (simp only [List.length_drop, List.length_take]; rfl)) ?_; (with_reducible refine (sizarref01_Same.calls k t102 t103 t104 _ _ t105 t110 t111 t112 _ _ t113 true _ ?side1 ?side2 ?side3 ?side4 A8.out).mono ?_); (case side1 => refine (Kd.R_reads' (e := 24) (base := w.heap.size) (ok := fun k_ => (((True ∧ k_ ≠ gb109) ∧ some k_ ≠ (.slice Ao19 t113.length co19 : Value).ownBlock) ∧ k_ ≠ gb117)) (n := t105.length) (c := co14) ?_).2.2; exact (by (with_reducible repeat (first | apply Kd.R_alloc | apply Kd.R_drewN | apply Kd.R_drew)); exact (Kd.R_mono (Kd.R_far (p := ⟨gb117, 3, none⟩) (Kd.R_far (p := ⟨gb117, 2, none⟩) (Kd.R_far (p := ⟨gb117, 1, none⟩) (Kd.R_far (p := ⟨gb117, 0, none⟩) (Kd.R_mono HO107.out (fun k_ hk => (⟨hk, hk.2⟩ : _ ∧ k_ ≠ gb117))) (fun _ hk => hk.2) (.int .i64 t110)) (fun _ hk => hk.2) (.int .i64 t111)) (fun _ hk => hk.2) (.string t112)) (fun _ hk => hk.2) (.slice Ao19 t113.length co19)) (fun _ h_ => h_.1)))); (case side2 => exact (Kd.R_reads' HO107.out).2.1); (case side3 => refine (Kd.R_reads' (e := 24) (base := w.heap.size) (ok := fun k_ => (((True ∧ some k_ ≠ (.slice Ao14 t105.length co14 : Value).ownBlock) ∧ k_ ≠ gb109) ∧ k_ ≠ gb117)) (n := t113.length) (c := co19) ?_).2.2; exact (by (with_reducible repeat (first | apply Kd.R_alloc | apply Kd.R_drewN | apply Kd.R_drew)); exact (Kd.R_mono (Kd.R_far (p := ⟨gb117, 3, none⟩) (Kd.R_far (p := ⟨gb117, 2, none⟩) (Kd.R_far (p := ⟨gb117, 1, none⟩) (Kd.R_far (p := ⟨gb117, 0, none⟩) (Kd.R_mono HO115.out (fun k_ hk => (⟨hk, hk.2⟩ : _ ∧ k_ ≠ gb117))) (fun _ hk => hk.2) (.int .i64 t110)) (fun _ hk => hk.2) (.int .i64 t111)) (fun _ hk => hk.2) (.string t112)) (fun _ hk => hk.2) (.slice Ao19 t113.length co19)) (fun _ h_ => h_.1)))); (case side4 => exact (Kd.R_reads' HO115.out).2.1); rintro e w21 ⟨rfl, hb⟩; refine ⟨_, rfl, ?_⟩; have n0_ := Aside0.mk (Kd.R_below (by (with_reducible repeat (first | apply Kd.R_alloc | apply Kd.R_drewN | apply Kd.R_drew)); exact (Kd.R_mono (Kd.R_far (p := ⟨gb117, 3, none⟩) (Kd.R_far (p := ⟨gb117, 2, none⟩) (Kd.R_far (p := ⟨gb117, 1, none⟩) (Kd.R_far (p := ⟨gb117, 0, none⟩) (Kd.R_mono HO107.out (fun k_ hk => (⟨hk, hk.2⟩ : _ ∧ k_ ≠ gb117))) (fun _ hk => hk.2) (.int .i64 t110)) (fun _ hk => hk.2) (.int .i64 t111)) (fun _ hk => hk.2) (.string t112)) (fun _ hk => hk.2) (.slice Ao19 t113.length co19)) (fun _ h_ => h_.1))) hb); have n1_ := Aside0.mk (Kd.R_below (by (with_reducible repeat (first | apply Kd.R_alloc | apply Kd.R_drewN | apply Kd.R_drew)); exact (Kd.R_mono (Kd.R_far (p := ⟨gb117, 3, none⟩) (Kd.R_far (p := ⟨gb117, 2, none⟩) (Kd.R_far (p := ⟨gb117, 1, none⟩) (Kd.R_far (p := ⟨gb117, 0, none⟩) (Kd.R_mono HO115.out (fun k_ hk => (⟨hk, hk.2⟩ : _ ∧ k_ ≠ gb117))) (fun _ hk => hk.2) (.int .i64 t110)) (fun _ hk => hk.2) (.int .i64 t111)) (fun _ hk => hk.2) (.string t112)) (fun _ hk => hk.2) (.slice Ao19 t113.length co19)) (fun _ h_ => h_.1))) hb); have n2_ := Aside0.mk (blk_below (g := gb109) (o := .cells #[.int .i64 t102, .int .i64 t103, .string t104, .slice Ao14 t105.length co14] 24 (0, 0)) (by (with_reducible repeat (first | refine blk_drewN ?_ _ | refine blk_drew ?_ | refine blk_alloc ?_ _)); refine blk_far ?_ NB109_117.out _; (with_reducible repeat (first | refine blk_drewN ?_ _ | refine blk_drew ?_ | refine blk_alloc ?_ _)); refine blk_far ?_ NB109_117.out _; (with_reducible repeat (first | refine blk_drewN ?_ _ | refine blk_drew ?_ | refine blk_alloc ?_ _)); refine blk_far ?_ NB109_117.out _; (with_reducible repeat (first | refine blk_drewN ?_ _ | refine blk_drew ?_ | refine blk_alloc ?_ _)); refine blk_far ?_ NB109_117.out _; (with_reducible repeat (first | refine blk_drewN ?_ _ | refine blk_drew ?_ | refine blk_alloc ?_ _)); exact BK109.out) hb); have n3_ := Aside0.mk (blk_below (g := gb117) (o := .cells #[.int .i64 t110, .int .i64 t111, .string t112, .slice Ao19 t113.length co19] 24 (0, 0)) (by (with_reducible repeat (first | refine blk_drewN ?_ _ | refine blk_drew ?_ | refine blk_alloc ?_ _)); refine blk_put (cs := #[.int .i64 t110, .int .i64 t111, .string t112, .slice none 0 0]) ?_ 3 _ rfl; (with_reducible repeat (first | refine blk_drewN ?_ _ | refine blk_drew ?_ | refine blk_alloc ?_ _)); refine blk_put (cs := #[.int .i64 t110, .int .i64 t111, .string (⟨#[]⟩ : ByteArray), .slice none 0 0]) ?_ 2 _ rfl; (with_reducible repeat (first | refine blk_drewN ?_ _ | refine blk_drew ?_ | refine blk_alloc ?_ _)); refine blk_put (cs := #[.int .i64 t110, .int .i64 0, .string (⟨#[]⟩ : ByteArray), .slice none 0 0]) ?_ 1 _ rfl; (with_reducible repeat (first | refine blk_drewN ?_ _ | refine blk_drew ?_ | refine blk_alloc ?_ _)); refine blk_put (cs := #[.int .i64 0, .int .i64 0, .string (⟨#[]⟩ : ByteArray), .slice none 0 0]) ?_ 0 _ rfl; (with_reducible repeat (first | refine blk_drewN ?_ _ | refine blk_drew ?_ | refine blk_alloc ?_ _)); exact BK117.out) hb); have n4_ := Aside0.mk (below_step (by repeat (first | (with_reducible first | exact HB.out | apply below_alloc | apply pw_below_drewN | apply below_drew1 | refine below_set ?_ GE109.out | refine below_set ?_ GE117.out) | exact HB.out)) hb); clear HO107; clear HO115; clear BK109; clear BK117; clear HB; have HO107 := n0_; have HO115 := n1_; have BK109 := n2_; have BK117 := n3_; have HB := n4_; clear n0_ n1_ n2_ n3_ n4_; (try clear hb); (try clear hb2); (try clear hk); (try clear hi)))
        go_ret
        exact ⟨by first | rfl | (simp [errW_none, errW_some] <;> rfl) | (simp [*, errW_none, errW_some] <;> rfl), by repeat (first | (with_reducible first | exact HB.out | apply below_alloc | apply pw_below_drewN | apply below_drew1 | refine below_set ?_ GE109.out | refine below_set ?_ GE117.out) | exact HB.out)⟩
      · replace c9 := Bool.eq_false_iff.mpr c9
        subst c9
        have H1 : (none) = some r := by rw [if_neg (show ¬ (false = true) by decide)] at H; exact H
        clear H
        have H := H1
        clear H1
        exact absurd H (by simp)
  · replace c3 := Bool.eq_false_iff.mpr c3
    subst c3
    have H1 : (none) = some r := by rw [if_neg (show ¬ (false = true) by decide)] at H; exact H
    clear H
    have H := H1
    clear H1
    exact absurd H (by simp)

end Go.Proofs.Ytgnkjhppfenmaaa.Q
/- The law CodecDecodeSpec without the program: both decodings say the same, and equal values are the same. -/
namespace Go.Proofs.Ytgnkjhppfenmaaa.Q
open Go.RowKit Go.Proofs.YtgnkjhppfenmaaaW.PrintWords Go.Proofs.YtgnkjhppfenmaaaW.PrintLast Go.Proofs.YtgnkjhppfenmaaaW.PrintMore
theorem same_loop (k0 n : Int) (s : ByteArray) (l : List S24) (hl : l.length ≤ 9223372036854775807) (ih : ∀ x ∈ l, Ev fun k => sizarref01_Same.f k x.f0 x.f1 x.f2 x.f3 x.f0 x.f1 x.f2 x.f3 = some true) :
    ∀ (m i : Nat), i + m = l.length → Ev fun k => sizarref01_Same.l0 k (i : Int) k0 n s l k0 n s l = some true
  | 0, i, h => by
    refine (Ev.of (p := fun _ => True) fun _ => trivial).succ fun k _ => ?_
    rw [sizarref01_Same.l0, if_neg (by omega)]
  | m + 1, i, h => by
    have hi : i < l.length := by omega
    refine ((ih l[i] (List.getElem_mem hi)).and (same_loop k0 n s l hl ih m (i + 1) (by omega))).succ fun k hk => ?_
    obtain ⟨h1, h2⟩ := hk
    rw [sizarref01_Same.l0, if_pos (by omega), if_pos (by omega), if_pos (by omega), rd_at l i hi, h1, Option.bind_some, if_pos rfl, wrap_nat i l.length hi hl]
    exact h2
theorem same_ev (v : S24) (hw : WfV v) : Ev fun k => sizarref01_Same.f k v.f0 v.f1 v.f2 v.f3 v.f0 v.f1 v.f2 v.f3 = some true := by
  induction hw with
  | mk k0 n s l h0 h1 hs hl _ ih =>
    have h2 := same_loop k0 n s l hl ih l.length 0 (by omega)
    have h3 : Ev fun k => sizarref01_Same.j0 k ((l.length : Int) != (l.length : Int)) k0 n s l k0 n s l = some true := h2.succ fun k hk => by
      rw [sizarref01_Same.j0, if_neg (by simp)]
      exact hk
    refine h3.succ fun k hk => ?_
    show sizarref01_Same.f (k + 1) k0 n s l k0 n s l = some true
    rw [sizarref01_Same.f, if_pos rfl, if_pos rfl, if_pos rfl]
    exact hk
theorem decodeSpec_true (l0 : List Int) (hb : areBytes l0 = true) : ∃ k, sizarlaw01_CodecDecodeSpec.f k l0 = some true := by
  by_cases hl : (l0.length : Int) > 2000
  · exact ⟨0, by unfold sizarlaw01_CodecDecodeSpec.f sizarlaw01_sane.f; rw [Option.bind_some, if_pos rfl, if_pos hl]⟩
  · have hc : l0.length ≤ 4000 ∧ areBytes l0 = true := ⟨by omega, hb⟩
    cases hv : decV l0 with
    | none =>
      obtain ⟨k, hk⟩ := same_ev ⟨0, 0, ⟨#[]⟩, []⟩ (.mk 0 0 ⟨#[]⟩ [] (by omega) (by omega) (by decide) (by simp) (fun x hx => by cases hx))
      have hk := hk k (Nat.le_refl _)
      refine ⟨k, ?_⟩
      simp only at hk
      unfold sizarlaw01_CodecDecodeSpec.f sizarlaw01_sane.f codec_Decode.f sizarref01_Decode.f
      rw [Option.bind_some, if_pos rfl, if_neg hl, if_pos hc, hv]
      simp only [Option.bind_some, if_pos hc, hk]
      rfl
    | some x =>
      obtain ⟨-, -, hw⟩ := decV_back hb (by omega) hv
      obtain ⟨k, hk⟩ := same_ev x hw
      have hk := hk k (Nat.le_refl _)
      refine ⟨k, ?_⟩
      unfold sizarlaw01_CodecDecodeSpec.f sizarlaw01_sane.f codec_Decode.f sizarref01_Decode.f
      rw [Option.bind_some, if_pos rfl, if_neg hl, if_pos hc, hv]
      simp only [Option.bind_some, if_pos hc, hk]
      rfl
end Go.Proofs.Ytgnkjhppfenmaaa.Q
