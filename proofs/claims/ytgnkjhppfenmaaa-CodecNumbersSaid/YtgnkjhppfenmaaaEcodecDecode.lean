/- codec.Decode: the deferred closure, and the contract. -/
import Derived.Test.YtgnkjhppfenmaaaEcodecValue3
import Derived.Recover
namespace Go.Proofs.Ytgnkjhppfenmaaa.Q
open Go.RowKit Go.Proofs.YtgnkjhppfenmaaaW.PrintWords Go.Proofs.YtgnkjhppfenmaaaW.PrintLast Go.Proofs.YtgnkjhppfenmaaaW.PrintMore
set_option linter.unusedVariables false
set_option maxHeartbeats 4000000 in
set_option maxRecDepth 100000 in
theorem catch_idle (p q : Addr) (w : World) :
    CallsD Try.prog 27 #[.pointer (some p), .pointer (some q)] .returning w fun e u' w' => e = .returned (.tuple #[]) ∧ u' = .returning ∧ w' = w := by
  refine callsD_of_wpS Try.func27 rfl fun c₀ cs hu => ?_
  apply wpS_seq
  apply wpS_region
  simp [wpOpsS, go_sem, recoverD, hu, Try.ntmps27, Exit.thenS]
  apply wpS_seq
  apply wpS_region
  simp [wpOpsS, go_sem, recoverD, hu, Try.ntmps27, Exit.thenS]
  refine wpS_cond (t := false) (by simp [Act.eval, Array.replicate]) ?_
  simp only [Bool.false_eq_true, if_false]
  refine wpS_of_wp (wp_skip ?_)
  cases c₀
  simp_all [bodyPostS, results, Try.results27]
set_option maxHeartbeats 4000000 in
set_option maxRecDepth 100000 in
theorem catch_panic (p q : Nat) (e0 : Value) (a0 a1 a2 a3 : Value) (w : World) (hp : w.heap[p]? = some (.cells #[a0, a1, a2, a3] 24 (0, 0))) (hq : w.heap[q]? = some (.cells #[e0] 28 (0, 0))) :
    CallsD Try.prog 27 #[.pointer (some ⟨p, 0, none⟩), .pointer (some ⟨q, 0, none⟩)] (.panicking codeErr) w fun e u' w' => e = .returned (.tuple #[]) ∧ u' = .panicking [{ v := .iface 28 (.int .i64 10), recovered := true }] ∧ w' = (((((w.drew.setCell ⟨p, 0, none⟩ (.int .i64 0)).setCell ⟨p, 1, none⟩ (.int .i64 0)).setCell ⟨p, 2, none⟩ (.string ⟨#[]⟩)).setCell ⟨p, 3, none⟩ (.slice none 0 0)).setCell ⟨q, 0, none⟩ (.int .i64 10)) := by
  refine callsD_of_wpS Try.func27 rfl fun c₀ cs hu => ?_
  unfold codeErr at hu
  apply wpS_seq
  apply wpS_region
  simp [wpOpsS, go_sem, recoverD, hu, Try.ntmps27, Exit.thenS]
  apply wpS_seq
  apply wpS_region
  simp [wpOpsS, go_sem, recoverD, hu, Try.ntmps27, Exit.thenS]
  refine wpS_cond (t := true) (by simp [Act.eval, Array.replicate]) ?_
  simp only [if_true]
  refine wpS_of_wp ?_
  refine (show Code.wp Try.prog _ _ ⟨#[.pointer (some ⟨p, 0, none⟩), .pointer (some ⟨q, 0, none⟩), .iface 28 (.int .i64 10), .iface 28 (.int .i64 10), .iface 28 (.int .i64 10), .bool true, undef, undef, undef], []⟩ w from ?_)
  have hta : ∀ w : World, (Instr.typeAssert (.iface 28 (.int .i64 10)) 20 28 false).run Try.prog w = .ok (.int .i64 10) w := fun _ => by kernel_rfl
  have hne : p ≠ q := blk_ne hp hq (by decide)
  have hu24 := Try.underlying24
  have fz0 := blk_frozen hp 0
  have cz0 := (blk_cell hp 0).trans rfl
  have fz1 := blk_frozen hp 1
  have cz1 := (blk_cell hp 1).trans rfl
  have fz2 := blk_frozen hp 2
  have cz2 := (blk_cell hp 2).trans rfl
  have fz3 := blk_frozen hp 3
  have cz3 := (blk_cell hp 3).trans rfl
  have fq := blk_frozen hq 0
  have cq := (blk_cell hq 0).trans rfl
  refine start_ (n := 5) (S := fun w' => True) (ds := [4]) #[false, false, false, false, false] (by kernel_rfl) rfl rfl (trivial) (fun hHeld => ?_)
  refine pure_ (i := 0) (N := some 6) (v := ?_) (a' := ?_) #[true, false, false, false, false] rfl rfl (by kernel_rfl) (fun _ _ _ h => h) (Or.inl ⟨by rfl, ?_⟩) ?_ ?_
  rotate_left
  · intro w'
    go_simp
    with_reducible rfl
  rotate_left
  · simp only [Act.put, List.setIfInBounds_toArray, List.set_cons_zero, List.set_cons_succ, i64_w, i32_w]
    rfl
  refine pure_ (i := 1) (N := some 7) (v := ?_) (a' := ?_) #[true, true, false, false, false] rfl rfl (by kernel_rfl) (fun _ _ _ h => h) (Or.inl ⟨by rfl, ?_⟩) ?_ ?_
  rotate_left
  · intro w'
    go_simp
    with_reducible rfl
  rotate_left
  · simp only [Act.put, List.setIfInBounds_toArray, List.set_cons_zero, List.set_cons_succ, i64_w, i32_w]
    rfl
  refine pure_ (i := 2) (N := some 8) (v := ?_) (a' := ?_) #[true, true, true, false, false] rfl rfl (by kernel_rfl) (fun _ _ _ h => h) (Or.inl ⟨by rfl, ?_⟩) ?_ ?_
  rotate_left
  · intro w'
    go_simp
    with_reducible rfl
  rotate_left
  · simp only [Act.put, List.setIfInBounds_toArray, List.set_cons_zero, List.set_cons_succ, i64_w, i32_w]
    rfl
  refine one_ (i := 3) (N := none) #[true, true, true, true, false] rfl rfl (by kernel_rfl) (by decide) (fun K hK => ?_)
  refine skip_ (w1 := ?_) (by rfl) rfl ?_ ?_
  rotate_left
  · go_simp
    rfl
  refine hK.out _ _ (trivial) (fun hHeld => ?_)
  clear hK K
  refine last_ (i := 4) (N := none) #[true, true, true, true, true] rfl rfl (by kernel_rfl) (by decide) (fun K hK => ?_)
  have hq2 := blk_frozen (blk_far (blk_far (blk_far (blk_far (blk_drew hq) (p := ⟨p, 0, none⟩) hne.symm (.int .i64 0)) (p := ⟨p, 1, none⟩) hne.symm (.int .i64 0)) (p := ⟨p, 2, none⟩) hne.symm (.string ⟨#[]⟩)) (p := ⟨p, 3, none⟩) hne.symm (.slice none 0 0)) 0
  have hq3 := (blk_cell (blk_far (blk_far (blk_far (blk_far (blk_drew hq) (p := ⟨p, 0, none⟩) hne.symm (.int .i64 0)) (p := ⟨p, 1, none⟩) hne.symm (.int .i64 0)) (p := ⟨p, 2, none⟩) hne.symm (.string ⟨#[]⟩)) (p := ⟨p, 3, none⟩) hne.symm (.slice none 0 0)) 0).trans rfl
  refine skip_ (w1 := ?_) (by rfl) rfl ?_ ?_
  rotate_left
  · go_simp
    rfl
  refine hK.out _ _ ?_
  clear hK K
  refine done_ (by kernel_rfl) ?_
  cases c₀
  simp_all [bodyPostS, results, Try.results27]
/-- Decode's own memory -/
structure DS (w W : World) (cs : Array Value) (e0 : Value) : Prop where
  b : Below w.heap.size w W
  v : W.heap[w.heap.size]? = some (.cells cs 24 (0, 0))
  e : W.heap[w.heap.size + 1]? = some (.cells #[e0] 28 (0, 0))
theorem DS.call {w W W1 : World} {cs : Array Value} {e0 : Value} (h : DS w W cs e0) (hk : RK w W W1 (w.heap.size + 1 + 1)) : DS w W1 cs e0 :=
  ⟨hk.b, hk.k.blk h.v (by omega) (by simp), hk.k.blk h.e (by omega) (by simp)⟩
theorem DS.setv {w W : World} {cs : Array Value} {e0 : Value} (h : DS w W cs e0) (j : Nat) (u : Value) : DS w (W.setCell ⟨w.heap.size, j, none⟩ u) (cs.setIfInBounds j u) e0 :=
  ⟨h.b.setCell (Nat.le_refl _) u, blk_set h.v j u, blk_far h.e (by simp) u⟩
theorem DS.sete {w W : World} {cs : Array Value} {e0 : Value} (h : DS w W cs e0) (u : Value) : DS w (W.setCell ⟨w.heap.size + 1, 0, none⟩ u) cs u :=
  ⟨h.b.setCell (by simp) u, blk_far h.v (by simp) u, by simpa using blk_set h.e 0 u⟩
theorem DS.drew {w W : World} {cs : Array Value} {e0 : Value} (h : DS w W cs e0) : DS w W.drew cs e0 := ⟨below_drew1 h.b, blk_drew h.v, blk_drew h.e⟩
/-- the results, read out of their variables -/
theorem results14 {w W : World} {a0 a1 a2 a3 e0 : Value} (h : DS w W #[a0, a1, a2, a3] e0) (tmps : Array Value) (h2 : tmps.getD 2 undef = .pointer (some ⟨w.heap.size, 0, none⟩)) (h3 : tmps.getD 3 undef = .pointer (some ⟨w.heap.size + 1, 0, none⟩)) :
    (results Try.f14 tmps).run Try.prog W = .ok (.tuple #[.agg #[a0, a1, a2, a3], e0]) W := by
  have h2' : tmps[2]?.getD undef = .pointer (some ⟨w.heap.size, 0, none⟩) := by simpa using h2
  have h3' : tmps[3]?.getD undef = .pointer (some ⟨w.heap.size + 1, 0, none⟩) := by simpa using h3
  have ce : W.cell? ⟨w.heap.size + 1, 0, none⟩ = some e0 := (blk_cell h.e 0).trans rfl
  have c0 : W.cell? ⟨w.heap.size, 0, none⟩ = some a0 := (blk_cell h.v 0).trans rfl
  have c1 : W.cell? ⟨w.heap.size, 1, none⟩ = some a1 := (blk_cell h.v 1).trans rfl
  have c2 : W.cell? ⟨w.heap.size, 2, none⟩ = some a2 := (blk_cell h.v 2).trans rfl
  have c3 : W.cell? ⟨w.heap.size, 3, none⟩ = some a3 := (blk_cell h.v 3).trans rfl
  simp [results, Try.results14, h2', h3', asAddr, go_sem, ce, c0, c1, c2, c3]
def codec_Decode.f (l0 : List Int) : Option (Int × Int × ByteArray × (List (S24)) × Int) :=
  if l0.length ≤ 4000 ∧ areBytes l0 = true then (match decV l0 with | some v => some (v.f0, v.f1, v.f2, v.f3, 0) | none => some (0, 0, ⟨#[]⟩, [], 10)) else none
set_option maxHeartbeats 8000000 in
set_option maxRecDepth 100000 in
theorem codec_Decode.calls (A0 : Option Addr) (c0 : Nat) (l0 : List Int) (r1 : Int) (r2 : Int) (r3 : ByteArray) (r4 : List (S24)) (r5 : Int) (w : World) (hr0 : Kd.C (Kd.int .u8) w A0 l0.length l0) (hc0 : l0.length ≤ c0) (h : codec_Decode.f l0 = some (r1, r2, r3, r4, r5)) :
    Calls Try.prog 14 #[.slice A0 l0.length c0] w fun e w' => ∃ v3_ : Value, e = .returned (.tuple #[.agg #[.int .i64 r1, .int .i64 r2, .string r3, v3_], .int .i64 r5]) ∧ Kd.R k24 24 w' w.heap.size (fun _ => True) v3_ r4 ∧ Below w.heap.size w w' := by
  unfold codec_Decode.f at h
  split at h
  case isFalse => cases h
  rename_i hl
  have hmf : ∀ (fn : Fn) (first cap : Array Value) (w : World), (Instr.makeFunc fn first cap).run Try.prog w = .ok (.func fn first cap) w := fun _ _ _ _ => rfl
  have H := Aside0.mk h
  have HL := Aside0.mk hl
  have HC := Aside0.mk hr0
  have HK := Aside0.mk hc0
  clear h hl hr0 hc0
  have D3 := Aside0.mk (show DS w (((w.alloc (.cells #[.int .i64 0, .int .i64 0, .string ⟨#[]⟩, .slice none 0 0] 24)).alloc (.cells #[.int .i64 0] 28)).alloc (.cells #[.slice A0 l0.length c0] 56)) #[.int .i64 0, .int .i64 0, .string ⟨#[]⟩, .slice none 0 0] (.int .i64 0) from
    ⟨below_alloc (below_alloc (below_alloc (Below.refl _ _) _) _) _, blk_alloc (blk_alloc (blk_new _ _) _) _, by have h_ := blk_alloc (blk_new (w.alloc (.cells #[.int .i64 0, .int .i64 0, .string ⟨#[]⟩, .slice none 0 0] 24)) (.cells #[.int .i64 0] 28)) (.cells #[.slice A0 l0.length c0] 56); simpa using h_⟩)
  have R3 := Aside0.mk (show RD w (((w.alloc (.cells #[.int .i64 0, .int .i64 0, .string ⟨#[]⟩, .slice none 0 0] 24)).alloc (.cells #[.int .i64 0] 28)).alloc (.cells #[.slice A0 l0.length c0] 56)) (w.heap.size + 1 + 1) l0 from
    ⟨A0, c0, by have h_ := blk_new ((w.alloc (.cells #[.int .i64 0, .int .i64 0, .string ⟨#[]⟩, .slice none 0 0] 24)).alloc (.cells #[.int .i64 0] 28)) (.cells #[.slice A0 l0.length c0] 56); simpa using h_, HK.out, HC.out⟩)
  cases hv : rdVal 16 l0 with
  | none =>
    have HV := Aside0.mk hv
    clear hv
    go_enter_defers Try.func14, Try.ntmps14
    go_wp2_with (go_at_call 28; (refine (value_says 16 0 w _ (w.heap.size + 1 + 1) l0 (by omega) (by omega) D3.out.b (by omega) R3.out HL.out.2 (by have := HL.out.1; omega)).mono ?_); rintro e w4 ⟨he, hk⟩; rw [HV.out] at he; obtain rfl : e = .panicked codeErr := he; have D4 := Aside0.mk (D3.out.call hk); clear hk)
    refine leaves_cons (f := 27) (args := #[.pointer (some ⟨w.heap.size, 0, none⟩), .pointer (some ⟨w.heap.size + 1, 0, none⟩)]) (by simp) (by simp [go_sem]) ?_
    refine (catch_panic w.heap.size (w.heap.size + 1) _ _ _ _ _ w4 D4.out.v D4.out.e).mono ?_
    rintro e u' w'' ⟨rfl, rfl, rfl⟩
    have E := (((((D4.out.drew).setv 0 (.int .i64 0)).setv 1 (.int .i64 0)).setv 2 (.string ⟨#[]⟩)).setv 3 (.slice none 0 0)).sete (.int .i64 10)
    refine ⟨_, results14 (a0 := .int .i64 0) (a1 := .int .i64 0) (a2 := .string ⟨#[]⟩) (a3 := .slice none 0 0) (e0 := .int .i64 10) E _ rfl rfl, ?_⟩
    have H2 := H.out
    rw [show decV l0 = none by rw [decV, HV.out]] at H2
    cases H2
    exact ⟨_, rfl, Kd.R_nil _ _ _ _ _, E.b⟩
  | some p =>
    obtain ⟨x, ys⟩ := p
    have HV := Aside0.mk hv
    clear hv
    cases ys with
    | nil =>
      go_enter_defers Try.func14, Try.ntmps14
      go_wp2_with (first | (go_at_call 28; (refine (value_says 16 0 w _ (w.heap.size + 1 + 1) l0 (by omega) (by omega) D3.out.b (by omega) R3.out HL.out.2 (by have := HL.out.1; omega)).mono ?_); rintro e w4 ⟨he, hk⟩; rw [HV.out] at he; obtain ⟨⟨v3, rfl, hr3⟩, ⟨AR, cR, hbR, -, -⟩⟩ := he; obtain ⟨A3, c3, rfl⟩ := Kd.R_slice hr3; have D4 := Aside0.mk (D3.out.call hk); have R4 := Aside0.mk hr3; have czR : w4.cell? ⟨w.heap.size + 1 + 1, 0, none⟩ = some (.slice AR 0 cR) := (blk_cell hbR 0).trans rfl; clear hk hr3 hbR; have hu24 := Try.underlying24; have fz0 := blk_frozen D4.out.v 0; have fz1 := blk_frozen D4.out.v 1; have fz2 := blk_frozen D4.out.v 2; have fz3 := blk_frozen D4.out.v 3; have cz0 := (blk_cell D4.out.v 0).trans rfl; have cz1 := (blk_cell D4.out.v 1).trans rfl; have cz2 := (blk_cell D4.out.v 2).trans rfl; have cz3 := (blk_cell D4.out.v 3).trans rfl; have fe := blk_frozen D4.out.e 0; have ce := (blk_cell D4.out.e 0).trans rfl) | (go_at_call 29; (refine (want_ok _ _).mono ?_); rintro e w5 ⟨rfl, rfl⟩))
      refine leaves_cons (f := 27) (args := #[.pointer (some ⟨w.heap.size, 0, none⟩), .pointer (some ⟨w.heap.size + 1, 0, none⟩)]) (by simp) (by simp [go_sem]) ?_
      refine (catch_idle _ _ _).mono ?_
      rintro e u' w'' ⟨rfl, rfl, rfl⟩
      have E := (((((((((D4.out).setv 0 (.int .i64 x.f0)).setv 1 (.int .i64 x.f1)).setv 2 (.string x.f2)).setv 3 (.slice A3 x.f3.length c3)).setv 0 (.int .i64 x.f0)).setv 1 (.int .i64 x.f1)).setv 2 (.string x.f2)).setv 3 (.slice A3 x.f3.length c3)).sete (.int .i64 0)
      refine ⟨_, results14 (a0 := .int .i64 x.f0) (a1 := .int .i64 x.f1) (a2 := .string x.f2) (a3 := .slice A3 x.f3.length c3) (e0 := .int .i64 0) E _ rfl rfl, ?_⟩
      have H2 := H.out
      rw [show decV l0 = some x by rw [decV, HV.out]] at H2
      cases H2
      exact ⟨_, rfl, Kd.R_mono (Kd.R_far (p := ⟨w.heap.size + 1, 0, none⟩) (Kd.R_far (p := ⟨w.heap.size, 3, none⟩) (Kd.R_far (p := ⟨w.heap.size, 2, none⟩) (Kd.R_far (p := ⟨w.heap.size, 1, none⟩) (Kd.R_far (p := ⟨w.heap.size, 0, none⟩) (Kd.R_far (p := ⟨w.heap.size, 3, none⟩) (Kd.R_far (p := ⟨w.heap.size, 2, none⟩) (Kd.R_far (p := ⟨w.heap.size, 1, none⟩) (Kd.R_far (p := ⟨w.heap.size, 0, none⟩) (R4.out) (fun k_ hk_ => by simp at hk_ ⊢; omega) (.int .i64 x.f0)) (fun k_ hk_ => by simp at hk_ ⊢; omega) (.int .i64 x.f1)) (fun k_ hk_ => by simp at hk_ ⊢; omega) (.string x.f2)) (fun k_ hk_ => by simp at hk_ ⊢; omega) (.slice A3 x.f3.length c3)) (fun k_ hk_ => by simp at hk_ ⊢; omega) (.int .i64 x.f0)) (fun k_ hk_ => by simp at hk_ ⊢; omega) (.int .i64 x.f1)) (fun k_ hk_ => by simp at hk_ ⊢; omega) (.string x.f2)) (fun k_ hk_ => by simp at hk_ ⊢; omega) (.slice A3 x.f3.length c3)) (fun k_ hk_ => by simp at hk_ ⊢; omega) (.int .i64 0)) (fun _ _ => trivial), E.b⟩
    | cons y ys =>
      have hne : (((ys.length + 1 : Nat) : Int) == 0) = false := by simp; omega
      have hne2 : (((ys.length : Int) + 1) == 0) = false := by simp; omega
      go_enter_defers Try.func14, Try.ntmps14
      go_wp2_with (first | (go_at_call 28; (refine (value_says 16 0 w _ (w.heap.size + 1 + 1) l0 (by omega) (by omega) D3.out.b (by omega) R3.out HL.out.2 (by have := HL.out.1; omega)).mono ?_); rintro e w4 ⟨he, hk⟩; rw [HV.out] at he; obtain ⟨⟨v3, rfl, hr3⟩, ⟨AR, cR, hbR, -, -⟩⟩ := he; obtain ⟨A3, c3, rfl⟩ := Kd.R_slice hr3; have D4 := Aside0.mk (D3.out.call hk); have R4 := Aside0.mk hr3; have czR : w4.cell? ⟨w.heap.size + 1 + 1, 0, none⟩ = some (.slice AR (ys.length + 1) cR) := (blk_cell hbR 0).trans rfl; clear hk hr3 hbR; have hu24 := Try.underlying24; have fz0 := blk_frozen D4.out.v 0; have fz1 := blk_frozen D4.out.v 1; have fz2 := blk_frozen D4.out.v 2; have fz3 := blk_frozen D4.out.v 3; have cz0 := (blk_cell D4.out.v 0).trans rfl; have cz1 := (blk_cell D4.out.v 1).trans rfl; have cz2 := (blk_cell D4.out.v 2).trans rfl; have cz3 := (blk_cell D4.out.v 3).trans rfl; have fe := blk_frozen D4.out.e 0; have ce := (blk_cell D4.out.e 0).trans rfl) | (go_at_call 29; (refine (want_not _ _).mono ?_); rintro e w5 ⟨rfl, rfl⟩))
      have D5 := ((((D4.out).setv 0 (.int .i64 x.f0)).setv 1 (.int .i64 x.f1)).setv 2 (.string x.f2)).setv 3 (.slice A3 x.f3.length c3)
      refine leaves_cons (f := 27) (args := #[.pointer (some ⟨w.heap.size, 0, none⟩), .pointer (some ⟨w.heap.size + 1, 0, none⟩)]) (by simp) (by simp [go_sem]) ?_
      refine (catch_panic w.heap.size (w.heap.size + 1) _ _ _ _ _ _ D5.v D5.e).mono ?_
      rintro e u' w'' ⟨rfl, rfl, rfl⟩
      have E := (((((D5.drew).setv 0 (.int .i64 0)).setv 1 (.int .i64 0)).setv 2 (.string ⟨#[]⟩)).setv 3 (.slice none 0 0)).sete (.int .i64 10)
      refine ⟨_, results14 (a0 := .int .i64 0) (a1 := .int .i64 0) (a2 := .string ⟨#[]⟩) (a3 := .slice none 0 0) (e0 := .int .i64 10) E _ rfl rfl, ?_⟩
      have H2 := H.out
      rw [show decV l0 = none by rw [decV, HV.out]] at H2
      cases H2
      exact ⟨_, rfl, Kd.R_nil _ _ _ _ _, E.b⟩
end Go.Proofs.Ytgnkjhppfenmaaa.Q
