/- The proof's texts, part 3 of 7. -/
import Derived.Lib.SliceRun
import Derived.Test.YtlnmjgkeiljniaaKH1
set_option linter.unusedVariables false
set_option linter.unusedSimpArgs false
/- Rows that are cloned, clipped, and grown. -/
namespace Go.Proofs.Ytlnmjgkeiljniaa.Q
open Go.RowKit Go.Proofs.YtlnmjgkeiljniaaW.PrintWords Go.Proofs.YtlnmjgkeiljniaaW.PrintLast Go.Proofs.YtlnmjgkeiljniaaW.PrintMore
set_option linter.unusedVariables false
set_option linter.unusedSimpArgs false
section
variable {P : Program} {ops : Array Oper} {rest : List Oper} {o : Oper} {a : Act} {Q : Exit → Act → World → Prop} {α : Type}
theorem N_of_own {d : Kd α} {w : World} {base n : Nat} {e : TypeId} {v : Value} {xs : List α} {inner : List Value} {ok : Nat → Prop} (ho : w.ownsRow base e d.sz v n inner) (hn : xs.length = n)
    (hr : Reps (Kd.FK d w (fun k => ok k ∧ some k ≠ v.ownBlock)) d.sz xs inner) (h0 : ∀ k, v.ownBlock = some k → ok k) : Kd.N d e w base ok v xs := by
  subst hn
  refine ⟨h0, Kd.chunks d.sz xs.length inner, Kd.chunks_length _ _ _, ⟨fun k hk => hk.symm, inner, by rw [Kd.chunks_length]; exact ho, Kd.reps_raw hr (fun x c hp => ⟨d.K_len (Kd.FK_now hp), d.K_one (Kd.FK_now hp)⟩)⟩, fun j x c hx hc => ?_⟩
  rw [Kd.chunks_get hc]
  exact hr.2 j x hx
/-- append(v, x) where v is full: a new row. -/
theorem wp_append_full (d : Kd α) {W : World} (hgd : o.guard = none) (s x : Operand) (t e : TypeId) (z : Value) (bytes : Nat)
    (ho : o.op = .call { callee := .builtin .append, args := #[s, x], argTypes := #[t, t] })
    (ht : P.underlying t = some (.slice e)) (hinfo : (P.info? e).map (fun i => (i.zero, i.size, i.bytes)) = some (some z, d.sz, bytes)) (hz : z.cells.size = d.sz) (hs0 : 0 < d.sz) (hb0 : 0 < bytes)
    (A : Option Addr) (n : Nat) (xs : List α) (p : α) (cs : List Value) (ok : Nat → Prop) (hs : a.eval s = .slice A n n) (hF : Kd.F d W ok A n xs) (hx : a.eval x = .slice (some ⟨W.heap.size, 0, none⟩) 1 1) (hp : Kd.FK d W ok p cs) (hfresh : ∀ k, W.heap.size ≤ k → ok k) (hl : (n + 1) * bytes ≤ 140737488355328)
    (h : ∀ v' w1, Kd.N d e w1 W.heap.size ok v' (xs ++ [p]) → Below W.heap.size W w1 → wpList P ops Q rest (a.put o.dst v') w1) :
    wpList P ops Q (o :: rest) a (W.alloc (.cells cs.toArray e)) := by
  obtain ⟨i0, hi, hzz⟩ := Option.map_eq_some_iff.1 hinfo
  simp only [Prod.mk.injEq] at hzz
  obtain ⟨hz0, hz1, hz2⟩ := hzz
  have hB : Below W.heap.size W (W.alloc (.cells cs.toArray e)) := below_alloc (Below.refl _ _) _
  have hlen : n + 1 ≤ 140737488355328 := Nat.le_trans (Nat.le_mul_of_pos_right _ hb0) hl
  have hpl := d.K_len (Kd.FK_now hp)
  have hC := Kd.F_now hF
  have hF1 := Kd.F_below (Kd.F_bound hF) hB
  have hp1 := Kd.FK_below (Kd.FK_bound hp) hB
  obtain ⟨olds, hreps, hcells⟩ : ∃ olds, Reps (Kd.FK d (W.alloc (.cells cs.toArray e)) (fun k => ok k ∧ k < W.heap.size)) d.sz xs olds ∧ ∀ b, A = some b → ∀ j u, olds[j]? = some u → (W.alloc (.cells cs.toArray e)).cell? (b.add j) = some u := by
    cases A with
    | none =>
      have hn : n = 0 := by
        rcases Nat.eq_zero_or_pos n with h0 | h0
        · exact h0
        · obtain ⟨ad, h, _⟩ := hC.2.2 h0
          cases h
      have hxs : xs = [] := List.eq_nil_of_length_eq_zero (by rw [hC.1, hn])
      subst hxs
      exact ⟨[], Reps.none _ _, fun b hb => by cases hb⟩
    | some ad =>
      obtain ⟨inner, h1, h2⟩ := ReadsRow.inner_ (Kd.F_rows hF1)
      exact ⟨inner, h1, fun b hb => by cases hb; exact h2⟩
  have hnone : A = none → n = 0 ∧ n = 0 := by
    intro hA
    rcases Nat.eq_zero_or_pos n with h0 | h0
    · exact ⟨h0, h0⟩
    · obtain ⟨ad, h, _⟩ := hC.2.2 h0
      rw [hA] at h
      cases h
  refine wpList_append_grows (W.alloc (.cells cs.toArray e)) hgd s x t ho e i0 z d.sz bytes ht hi hz0 hz1 hz2 hz hs0 A n n olds hs hnone (by rw [hreps.1, hC.1]) hcells ⟨W.heap.size, 0, none⟩ 1 1 cs hx (by rw [hpl, Nat.one_mul])
    (fun j u hj => by rw [add_plain]; exact cell_arr (heap_alloc_new W _) j u hj) (d.K_one (Kd.FK_now hp)) (by omega) (by simp only [maxLen]; omega) hl ?_
  intro v' w' hown hg
  have hb1 : Below (W.alloc (.cells cs.toArray e)).heap.size (W.alloc (.cells cs.toArray e)) w' := ⟨hg.os, hg.tape, hg.output, hg.size, fun i hi => hg.block i hi (by simp)⟩
  have hsz : (W.alloc (.cells cs.toArray e)).heap.size = W.heap.size + 1 := by simp
  have hbase : ∀ k, v'.ownBlock = some k → W.heap.size + 1 ≤ k := fun k hk => by have := own_base hown k hk; omega
  have step : ∀ (x : α) (c : List Value), Kd.FK d (W.alloc (.cells cs.toArray e)) (fun k => ok k ∧ k < W.heap.size) x c → Kd.FK d w' (fun k => ok k ∧ some k ≠ v'.ownBlock) x c := fun x c hq =>
    Kd.FK_mono (Kd.FK_below hq hb1) (fun k hk => ⟨hk.1, fun he => by have := hbase k he.symm; omega⟩)
  have hr : Reps (Kd.FK d w' (fun k => ok k ∧ some k ≠ v'.ownBlock)) d.sz (xs ++ [p]) (olds ++ cs) := (hreps.snoc hp1 hpl).imp_ step
  exact h v' w' (Kd.N_lower (N_of_own hown (by simp [hC.1]) hr (fun k hk => hfresh k (by have := hbase k hk; omega))) (by omega)) (below_step hB hb1)
/-- an empty literal -/
theorem N_empty (d : Kd α) (e : Nat) (W : World) (base : Nat) (ok : Nat → Prop) (hb : base ≤ W.heap.size) (hok : ok W.heap.size) : Kd.N d e (W.alloc (.cells #[] e)) base ok (.slice (some ⟨W.heap.size, 0, none⟩) 0 0) [] := by
  refine Kd.R_N ⟨fun k hk => by simp [Value.ownBlock] at hk; subst hk; exact hok, [], ?_, Reps.none _ _⟩
  have h := World.ownsRow_lit (base := base) (e := e) (size := d.sz) W #[] 0 hb (by simp [maxLen]) (by simp)
  simpa using h
end
theorem c76_F {w : World} {A : Option Addr} {l : List S76} (h : k76.C w A l.length l) : Kd.F k76 w (fun k => k < w.heap.size) A l.length l := Kd.C_F k76_heap h
theorem kSec_heap : Kd.Heap (Kd.slice 5 (Kd.int .u8)) := Kd.heap_slice 5 (Kd.heap_int .u8)
set_option maxHeartbeats 8000000 in
set_option maxRecDepth 100000 in
theorem clone76_says (A : Option Addr) (c : Nat) (l : List S76) (w : World) (okp : Nat → Prop) (h : Kd.F k76 w okp A l.length l) (hb : l.length * 32 ≤ 140737488355328) :
    Calls Try.prog 60 #[.slice A l.length c] w fun e w' => (∃ v, e = .returned v ∧ Kd.N k76 76 w' w.heap.size (fun k => okp k ∨ w.heap.size ≤ k) v l) ∧ Below w.heap.size w w' := by
  have HF := Aside0.mk (Kd.F_alloc (Kd.F_bound h) (.cells #[] 76))
  have HL := Aside0.mk hb
  have hq : ∀ w : World, (binOp .eql 23 (.slice A l.length c) (.slice none 0 0)).run Try.prog w = .ok (.bool A.isNone) w := fun w => Lib.run_eql_slice_nil w 23 76 A l.length c 0 0 Try.underlying23
  cases A with
  | none =>
    have h0 : l = [] := by
      rcases Nat.eq_zero_or_pos l.length with h0 | h0
      · exact List.eq_nil_of_length_eq_zero h0
      · obtain ⟨ad, h1, _⟩ := (Kd.F_now h).2.2 h0
        cases h1
    subst h0
    replace hq : ∀ w : World, (binOp .eql 23 (.slice none 0 c) (.slice none 0 0)).run Try.prog w = .ok (.bool true) w := hq
    go_enter Try.func60, Try.ntmps60
    go_wp2
    go_ret
    exact ⟨⟨_, rfl, Kd.N_nil _ _ _ _ _⟩, Below.refl _ _⟩
  | some ad =>
    replace hq : ∀ w : World, (binOp .eql 23 (.slice (some ad) l.length c) (.slice none 0 0)).run Try.prog w = .ok (.bool false) w := hq
    have NE := Aside0.mk (N_empty k76 76 w w.heap.size (fun k => okp k ∨ w.heap.size ≤ k) (Nat.le_refl _) (.inr (Nat.le_refl _)))
    have BE := Aside0.mk (below_alloc (Below.refl w.heap.size w) (.cells #[] 76))
    clear h hb
    go_enter Try.func60, Try.ntmps60
    go_wp2_with ((with_reducible refine gate_builtin (b := .append) (xs := #[.tmp 5, .tmp 6]) rfl ?_); refine Kd.N_append_rows k76 (w0 := w) w.heap.size rfl (.tmp 5) (.tmp 6) 23 76 (.agg #[(.int .i64 0), (.slice none 0 0)]) 32 rfl Try.underlying23 info76 rfl (by decide) (by decide) (.slice (some ⟨w.heap.size, 0, none⟩) 0 0) [] l (some ad) l.length c (fun k => okp k ∨ w.heap.size ≤ k) (fun k => okp k ∧ k < w.heap.size) rfl rfl NE.out HF.out (fun k hk => ⟨.inl hk.1, by have := hk.2; simp [Value.ownBlock]; omega⟩) (fun k hk => .inr (by simp at hk; omega)) BE.out (by simp) (by rw [List.length_nil, Nat.zero_add]; exact HL.out) ?_; intro v1 w1 hn hb1 _ _; have N1 := Aside0.mk hn; have B1 := Aside0.mk hb1; clear hn hb1)
    go_ret
    exact ⟨⟨_, rfl, N1.out⟩, B1.out⟩
set_option maxHeartbeats 8000000 in
set_option maxRecDepth 100000 in
theorem clone35_says (A : Option Addr) (c : Nat) (l : List (List Int)) (w : World) (okp : Nat → Prop) (h : Kd.F (Kd.slice 5 (Kd.int .u8)) w okp A l.length l) (hb : l.length * 24 ≤ 140737488355328) :
    Calls Try.prog 81 #[.slice A l.length c] w fun e w' => (∃ v, e = .returned v ∧ Kd.N (Kd.slice 5 (Kd.int .u8)) 35 w' w.heap.size (fun k => okp k ∨ w.heap.size ≤ k) v l) ∧ Below w.heap.size w w' := by
  have HF := Aside0.mk (Kd.F_alloc (Kd.F_bound h) (.cells #[] 35))
  have HL := Aside0.mk hb
  have hq : ∀ w : World, (binOp .eql 22 (.slice A l.length c) (.slice none 0 0)).run Try.prog w = .ok (.bool A.isNone) w := fun w => Lib.run_eql_slice_nil w 22 35 A l.length c 0 0 Try.underlying22
  cases A with
  | none =>
    have h0 : l = [] := by
      rcases Nat.eq_zero_or_pos l.length with h0 | h0
      · exact List.eq_nil_of_length_eq_zero h0
      · obtain ⟨ad, h1, _⟩ := (Kd.F_now h).2.2 h0
        cases h1
    subst h0
    replace hq : ∀ w : World, (binOp .eql 22 (.slice none 0 c) (.slice none 0 0)).run Try.prog w = .ok (.bool true) w := hq
    go_enter Try.func81, Try.ntmps81
    go_wp2
    go_ret
    exact ⟨⟨_, rfl, Kd.N_nil _ _ _ _ _⟩, Below.refl _ _⟩
  | some ad =>
    replace hq : ∀ w : World, (binOp .eql 22 (.slice (some ad) l.length c) (.slice none 0 0)).run Try.prog w = .ok (.bool false) w := hq
    have NE := Aside0.mk (N_empty (Kd.slice 5 (Kd.int .u8)) 35 w w.heap.size (fun k => okp k ∨ w.heap.size ≤ k) (Nat.le_refl _) (.inr (Nat.le_refl _)))
    have BE := Aside0.mk (below_alloc (Below.refl w.heap.size w) (.cells #[] 35))
    clear h hb
    go_enter Try.func81, Try.ntmps81
    go_wp2_with ((with_reducible refine gate_builtin (b := .append) (xs := #[.tmp 5, .tmp 6]) rfl ?_); refine Kd.N_append_rows (Kd.slice 5 (Kd.int .u8)) (w0 := w) w.heap.size rfl (.tmp 5) (.tmp 6) 22 35 (.slice none 0 0) 24 rfl Try.underlying22 info35 rfl (by decide) (by decide) (.slice (some ⟨w.heap.size, 0, none⟩) 0 0) [] l (some ad) l.length c (fun k => okp k ∨ w.heap.size ≤ k) (fun k => okp k ∧ k < w.heap.size) rfl rfl NE.out HF.out (fun k hk => ⟨.inl hk.1, by have := hk.2; simp [Value.ownBlock]; omega⟩) (fun k hk => .inr (by simp at hk; omega)) BE.out (by simp) (by rw [List.length_nil, Nat.zero_add]; exact HL.out) ?_; intro v1 w1 hn hb1 _ _; have N1 := Aside0.mk hn; have B1 := Aside0.mk hb1; clear hn hb1)
    go_ret
    exact ⟨⟨_, rfl, N1.out⟩, B1.out⟩
set_option maxHeartbeats 8000000 in
set_option maxRecDepth 100000 in
theorem clone5_says (A : Option Addr) (c : Nat) (l : List Int) (w : World) (okp : Nat → Prop) (h : Kd.F (Kd.int .u8) w okp A l.length l) (hb : l.length * 1 ≤ 140737488355328) :
    Calls Try.prog 63 #[.slice A l.length c] w fun e w' => (∃ v, e = .returned v ∧ Kd.N (Kd.int .u8) 5 w' w.heap.size (fun k => okp k ∨ w.heap.size ≤ k) v l) ∧ Below w.heap.size w w' := by
  have HF := Aside0.mk (Kd.F_alloc (Kd.F_bound h) (.cells #[] 5))
  have HL := Aside0.mk hb
  have hq : ∀ w : World, (binOp .eql 35 (.slice A l.length c) (.slice none 0 0)).run Try.prog w = .ok (.bool A.isNone) w := fun w => Lib.run_eql_slice_nil w 35 5 A l.length c 0 0 Try.underlying35
  cases A with
  | none =>
    have h0 : l = [] := by
      rcases Nat.eq_zero_or_pos l.length with h0 | h0
      · exact List.eq_nil_of_length_eq_zero h0
      · obtain ⟨ad, h1, _⟩ := (Kd.F_now h).2.2 h0
        cases h1
    subst h0
    replace hq : ∀ w : World, (binOp .eql 35 (.slice none 0 c) (.slice none 0 0)).run Try.prog w = .ok (.bool true) w := hq
    go_enter Try.func63, Try.ntmps63
    go_wp2
    go_ret
    exact ⟨⟨_, rfl, Kd.N_nil _ _ _ _ _⟩, Below.refl _ _⟩
  | some ad =>
    replace hq : ∀ w : World, (binOp .eql 35 (.slice (some ad) l.length c) (.slice none 0 0)).run Try.prog w = .ok (.bool false) w := hq
    have NE := Aside0.mk (N_empty (Kd.int .u8) 5 w w.heap.size (fun k => okp k ∨ w.heap.size ≤ k) (Nat.le_refl _) (.inr (Nat.le_refl _)))
    have BE := Aside0.mk (below_alloc (Below.refl w.heap.size w) (.cells #[] 5))
    clear h hb
    go_enter Try.func63, Try.ntmps63
    go_wp2_with ((with_reducible refine gate_builtin (b := .append) (xs := #[.tmp 5, .tmp 6]) rfl ?_); refine Kd.N_append_rows (Kd.int .u8) (w0 := w) w.heap.size rfl (.tmp 5) (.tmp 6) 35 5 (.int .u8 0) 1 rfl Try.underlying35 info5 rfl (by decide) (by decide) (.slice (some ⟨w.heap.size, 0, none⟩) 0 0) [] l (some ad) l.length c (fun k => okp k ∨ w.heap.size ≤ k) (fun k => okp k ∧ k < w.heap.size) rfl rfl NE.out HF.out (fun k hk => ⟨.inl hk.1, by have := hk.2; simp [Value.ownBlock]; omega⟩) (fun k hk => .inr (by simp at hk; omega)) BE.out (by simp) (by rw [List.length_nil, Nat.zero_add]; exact HL.out) ?_; intro v1 w1 hn hb1 _ _; have N1 := Aside0.mk hn; have B1 := Aside0.mk hb1; clear hn hb1)
    go_ret
    exact ⟨⟨_, rfl, N1.out⟩, B1.out⟩
set_option maxHeartbeats 8000000 in
set_option maxRecDepth 100000 in
theorem clip76_says (A : Option Addr) (n c : Nat) (w : World) (h : n ≤ c) (hm : n ≤ 9223372036854775807) :
    Calls Try.prog 59 #[.slice A n c] w fun e w' => e = .returned (.slice A n n) ∧ w = w' := by
  have h0 : (0 : Int) ≤ (n : Int) := by omega
  have h1 : (n : Int) ≤ (c : Int) := by omega
  have h2 : (n : Int) ≤ (n : Int) := by omega
  go_enter Try.func59, Try.ntmps59
  go_wp2
  all_goals
    go_ret
    exact ⟨rfl, rfl⟩
end Go.Proofs.Ytlnmjgkeiljniaa.Q
/- disk.Write. -/
namespace Go.Proofs.Ytlnmjgkeiljniaa.Q
open Go.RowKit Go.Proofs.YtlnmjgkeiljniaaW.PrintWords Go.Proofs.YtlnmjgkeiljniaaW.PrintLast Go.Proofs.YtlnmjgkeiljniaaW.PrintMore
set_option linter.unusedVariables false
set_option linter.unusedSimpArgs false
/-- the memory of a function that holds a disk and makes one -/
structure WS (w W : World) (cs1 cs2 : Array Value) : Prop where
  b : Below w.heap.size w W
  v1 : W.heap[w.heap.size]? = some (.cells cs1 25 (0, 0))
  v2 : W.heap[w.heap.size + 1]? = some (.cells cs2 25 (0, 0))
theorem WS.step {w W W1 : World} {cs1 cs2 : Array Value} (h : WS w W cs1 cs2) (hb : Below W.heap.size W W1) : WS w W1 cs1 cs2 := ⟨below_step h.b hb, blk_below h.v1 hb, blk_below h.v2 hb⟩
theorem WS.alloc {w W : World} {cs1 cs2 : Array Value} (h : WS w W cs1 cs2) (o : Obj) : WS w (W.alloc o) cs1 cs2 := h.step (below_alloc (Below.refl _ _) o)
theorem WS.drew {w W : World} {cs1 cs2 : Array Value} (h : WS w W cs1 cs2) : WS w W.drew cs1 cs2 := h.step (below_drew1 (Below.refl _ _))
theorem WS.set1 {w W : World} {cs1 cs2 : Array Value} (h : WS w W cs1 cs2) (j : Nat) (u : Value) : WS w (W.setCell ⟨w.heap.size, j, none⟩ u) (cs1.setIfInBounds j u) cs2 := ⟨h.b.setCell (Nat.le_refl _) u, blk_set h.v1 j u, blk_far h.v2 (by simp) u⟩
theorem WS.set2 {w W : World} {cs1 cs2 : Array Value} (h : WS w W cs1 cs2) (j : Nat) (u : Value) : WS w (W.setCell ⟨w.heap.size + 1, j, none⟩ u) cs1 (cs2.setIfInBounds j u) := ⟨h.b.setCell (by simp) u, blk_far h.v1 (by simp) u, blk_set h.v2 j u⟩
theorem WS.new (w : World) (cs1 cs2 : Array Value) : WS w ((w.alloc (.cells cs1 25)).alloc (.cells cs2 25)) cs1 cs2 :=
  ⟨below_alloc (below_alloc (Below.refl _ _) _) _, blk_alloc (blk_new _ _) _, by have h_ := blk_new (w.alloc (.cells cs1 25)) (.cells cs2 25); simpa using h_⟩
theorem int_cells {W : World} {A : Option Addr} {l : List Int} (h : (Kd.int .u8).C W A l.length l) (hp : 0 < (nums .u8 l).length) : ∃ ad, A = some ad ∧ ∀ (j : Nat) (v : Value), (nums .u8 l)[j]? = some v → W.cell? (ad.add j) = some v := by
  rw [nums_length] at hp
  obtain ⟨ad, rfl, hc⟩ := h.2.2 hp
  refine ⟨ad, rfl, fun j v hj => ?_⟩
  have hjl : j < l.length := by have := (List.getElem?_eq_some_iff.1 hj).1; rwa [nums_length] at this
  obtain ⟨c, _, hk, hcc⟩ := hc j _ (List.getElem?_eq_getElem hjl)
  have hk2 : c = [.int .u8 l[j]] := hk
  have h3 := hcc 0 (.int .u8 l[j]) (by rw [hk2]; rfl)
  rw [show j * (Kd.int .u8).sz + 0 = j from Nat.mul_one j] at h3
  rw [h3]
  rw [← hj]
  simp [nums, hjl]
theorem bytes_F {W : World} {gb : Nat} {l : List Int} {ok : Nat → Prop} (h : W.heap[gb]? = some (.cells (nums .u8 l).toArray 5 (0, 0))) (hok : ok gb) (hm : l.length ≤ 9223372036854775807) : Kd.F (Kd.int .u8) W ok (some ⟨gb, 0, none⟩) l.length l :=
  fun W' hW => bytes_C0 ((hW gb hok (blk_lt h)).trans h) hm
/-- what lies apart from the boxes of a function that holds a disk and makes one -/
def apartW (w : World) (k : Nat) : Prop := k < w.heap.size ∨ w.heap.size + 1 < k
theorem apartW.new {w W : World} (h : w.heap.size + 1 < W.heap.size) (k : Nat) (hk : W.heap.size ≤ k) : apartW w k := .inr (by omega)
theorem WS.lt {w W : World} {cs1 cs2 : Array Value} (h : WS w W cs1 cs2) : w.heap.size + 1 < W.heap.size := blk_lt h.v2
theorem apartW.ne1 {w : World} (k : Nat) (h : apartW w k) : k ≠ w.heap.size := by unfold apartW at h; omega
theorem apartW.ne2 {w : World} (k : Nat) (h : apartW w k) : k ≠ w.heap.size + 1 := by unfold apartW at h; omega
theorem zeros_len (n : Nat) : (zeros n).length = n := List.length_replicate ..
theorem pad_len (b : List Int) (h : b.length ≤ 128) : (pad b).length = 128 := by unfold pad; rw [List.length_append, zeros_len]; omega
theorem pad_splice_ (m : Nat) (b : List Int) : splice (nums .u8 (zeros m)) 0 (nums .u8 b) = nums .u8 (b ++ zeros (m - b.length)) := by
  unfold splice
  rw [List.take_zero, List.nil_append, Nat.zero_add, nums_append, nums_length]
  congr 1
  unfold nums zeros
  rw [List.map_replicate, List.map_replicate, List.drop_replicate]
theorem pad_splice (b : List Int) : splice (nums .u8 (zeros 128)) 0 (nums .u8 b) = nums .u8 (pad b) := pad_splice_ 128 b
theorem WS.stepB {w W W1 : World} {cs1 cs2 : Array Value} {B : Nat} (h : WS w W cs1 cs2) (hb : Below B W W1) (hB : w.heap.size + 1 < B) : WS w W1 cs1 cs2 :=
  ⟨h.b.trans (hb.mono (by omega)), (hb.block _ (by omega)).trans h.v1, (hb.block _ hB).trans h.v2⟩
theorem nums_one (l : List Int) : ∀ v ∈ nums .u8 l, v.oneCell' = true := by
  intro v hv
  simp only [nums, List.mem_map] at hv
  obtain ⟨x, _, rfl⟩ := hv
  rfl
set_option maxHeartbeats 8000000 in
set_option maxRecDepth 100000 in
theorem write_bad (v v2 : Value) (d : Dk) (a : Int) (b : List Int) (w : World) (h : DiskV w v d) (h2 : BytesV w v2 b) (hbad : ¬ (runsD d = true ∧ hasD d a = true)) : Calls Try.prog 26 #[v, .int .i64 a, v2] w (DEnds w (writeD d a b)) := by
  obtain ⟨Ab, cb, rfl, hcb, hCb⟩ := h2
  have hd := h
  obtain ⟨A0, c0, A1, c1, rfl, h0, h1, hC0, hC1⟩ := h
  have S2 := Aside0.mk (WS.new w #[.slice A0 d.s.length c0, .slice A1 d.p.length c1, .int .i64 d.left, .bool d.st] #[.slice none 0 0, .slice none 0 0, .int .i64 0, .bool false])
  have D2 := Aside0.mk (hd.below S2.out.b)
  have HC0 := Aside0.mk hC0
  have HC1 := Aside0.mk hC1
  have HL := Aside0.mk (And.intro h0 h1)
  have hu25 := Try.underlying25
  clear hd h0 h1 hC0 hC1
  have HE := Aside0.mk (show writeD d a b = (zeroD, 450) from by unfold writeD; rw [if_pos hbad])
  cases hr : runsD d with
  | false =>
    have HR := Aside0.mk hr
    clear hr hbad
    go_enter Try.func26, Try.ntmps26
    go_wp2_with (go_at_call 57; (refine (runs_says _ d _ D2.out).mono ?_); rintro e w1 ⟨he, hb⟩; rw [HR.out] at he; obtain rfl := he; have S3 := Aside0.mk (S2.out.step hb); have D3 := Aside0.mk (D2.out.below hb); clear hb; have v1z0 := (blk_cell S3.out.v1 0).trans rfl; have v1f0 := blk_frozen S3.out.v1 0; have v2z0 := (blk_cell S3.out.v2 0).trans rfl; have v2f0 := blk_frozen S3.out.v2 0; have v1z1 := (blk_cell S3.out.v1 1).trans rfl; have v1f1 := blk_frozen S3.out.v1 1; have v2z1 := (blk_cell S3.out.v2 1).trans rfl; have v2f1 := blk_frozen S3.out.v2 1; have v1z2 := (blk_cell S3.out.v1 2).trans rfl; have v1f2 := blk_frozen S3.out.v1 2; have v2z2 := (blk_cell S3.out.v2 2).trans rfl; have v2f2 := blk_frozen S3.out.v2 2; have v1z3 := (blk_cell S3.out.v1 3).trans rfl; have v1f3 := blk_frozen S3.out.v1 3; have v2z3 := (blk_cell S3.out.v2 3).trans rfl; have v2f3 := blk_frozen S3.out.v2 3)
    have E := (((S3.out.set2 0 (.slice none 0 0)).set2 1 (.slice none 0 0)).set2 2 (.int .i64 0)).set2 3 (.bool false)
    refine bodyPost_ret (results_ct rfl _ _ (w.heap.size + 1) 25 #[.slice none 0 0, .slice none 0 0, .int .i64 0, .bool false] (0, 0) _ rfl E.v2 hu25 rfl info25') rfl ?_
    exact ⟨⟨_, by rw [HE.out]; rfl, by rw [HE.out]; exact diskV_zero _⟩, E.b⟩
  | true =>
    have HR := Aside0.mk hr
    have HH := Aside0.mk (show hasD d a = false from by rw [hr] at hbad; cases hh : hasD d a with | true => exact absurd ⟨rfl, hh⟩ hbad | false => rfl)
    clear hr hbad
    go_enter Try.func26, Try.ntmps26
    go_wp2_with (first | (go_at_call 57; (refine (runs_says _ d _ D2.out).mono ?_); rintro e w1 ⟨he, hb⟩; rw [HR.out] at he; obtain rfl := he; have S3 := Aside0.mk (S2.out.step hb); have D3 := Aside0.mk (D2.out.below hb); clear hb; have v1z0 := (blk_cell S3.out.v1 0).trans rfl; have v1f0 := blk_frozen S3.out.v1 0; have v2z0 := (blk_cell S3.out.v2 0).trans rfl; have v2f0 := blk_frozen S3.out.v2 0; have v1z1 := (blk_cell S3.out.v1 1).trans rfl; have v1f1 := blk_frozen S3.out.v1 1; have v2z1 := (blk_cell S3.out.v2 1).trans rfl; have v2f1 := blk_frozen S3.out.v2 1; have v1z2 := (blk_cell S3.out.v1 2).trans rfl; have v1f2 := blk_frozen S3.out.v1 2; have v2z2 := (blk_cell S3.out.v2 2).trans rfl; have v2f2 := blk_frozen S3.out.v2 2; have v1z3 := (blk_cell S3.out.v1 3).trans rfl; have v1f3 := blk_frozen S3.out.v1 3; have v2z3 := (blk_cell S3.out.v2 3).trans rfl; have v2f3 := blk_frozen S3.out.v2 3) | (go_at_call 58; (refine (has_says _ d a _ D3.out).mono ?_); rintro e w2 ⟨he, hb⟩; rw [HH.out] at he; obtain rfl := he; have S4 := Aside0.mk (S3.out.step hb); clear v1z0 v1f0 v2z0 v2f0 v1z1 v1f1 v2z1 v2f1 v1z2 v1f2 v2z2 v2f2 v1z3 v1f3 v2z3 v2f3; have v1z0 := (blk_cell S4.out.v1 0).trans rfl; have v1f0 := blk_frozen S4.out.v1 0; have v2z0 := (blk_cell S4.out.v2 0).trans rfl; have v2f0 := blk_frozen S4.out.v2 0; have v1z1 := (blk_cell S4.out.v1 1).trans rfl; have v1f1 := blk_frozen S4.out.v1 1; have v2z1 := (blk_cell S4.out.v2 1).trans rfl; have v2f1 := blk_frozen S4.out.v2 1; have v1z2 := (blk_cell S4.out.v1 2).trans rfl; have v1f2 := blk_frozen S4.out.v1 2; have v2z2 := (blk_cell S4.out.v2 2).trans rfl; have v2f2 := blk_frozen S4.out.v2 2; have v1z3 := (blk_cell S4.out.v1 3).trans rfl; have v1f3 := blk_frozen S4.out.v1 3; have v2z3 := (blk_cell S4.out.v2 3).trans rfl; have v2f3 := blk_frozen S4.out.v2 3; clear hb))
    have E := (((S4.out.set2 0 (.slice none 0 0)).set2 1 (.slice none 0 0)).set2 2 (.int .i64 0)).set2 3 (.bool false)
    refine bodyPost_ret (results_ct rfl _ _ (w.heap.size + 1) 25 #[.slice none 0 0, .slice none 0 0, .int .i64 0, .bool false] (0, 0) _ rfl E.v2 hu25 rfl info25') rfl ?_
    exact ⟨⟨_, by rw [HE.out]; rfl, by rw [HE.out]; exact diskV_zero _⟩, E.b⟩
set_option maxHeartbeats 8000000 in
set_option maxRecDepth 100000 in
theorem write_long (v v2 : Value) (d : Dk) (a : Int) (b : List Int) (w : World) (h : DiskV w v d) (h2 : BytesV w v2 b) (hr : runsD d = true) (hh : hasD d a = true) (hl : 128 < b.length) : Calls Try.prog 26 #[v, .int .i64 a, v2] w (DEnds w (writeD d a b)) := by
  obtain ⟨Ab, cb, rfl, hcb, hCb⟩ := h2
  have hd := h
  obtain ⟨A0, c0, A1, c1, rfl, h0, h1, hC0, hC1⟩ := h
  have S2 := Aside0.mk (WS.new w #[.slice A0 d.s.length c0, .slice A1 d.p.length c1, .int .i64 d.left, .bool d.st] #[.slice none 0 0, .slice none 0 0, .int .i64 0, .bool false])
  have D2 := Aside0.mk (hd.below S2.out.b)
  have HC0 := Aside0.mk hC0
  have HC1 := Aside0.mk hC1
  have HL := Aside0.mk (And.intro h0 h1)
  have hu25 := Try.underlying25
  clear hd h0 h1 hC0 hC1
  have HE := Aside0.mk (show writeD d a b = (zeroD, 1) from by unfold writeD; rw [if_neg (fun hn => hn ⟨hr, hh⟩), if_pos hl])
  have HR := Aside0.mk hr
  have HH := Aside0.mk hh
  have q1 : decide ((128 : Int) < (b.length : Int)) = true := decide_eq_true (by omega)
  clear hr hh hl
  go_enter Try.func26, Try.ntmps26
  go_wp2_with (first | (go_at_call 57; (refine (runs_says _ d _ D2.out).mono ?_); rintro e w1 ⟨he, hb⟩; rw [HR.out] at he; obtain rfl := he; have S3 := Aside0.mk (S2.out.step hb); have D3 := Aside0.mk (D2.out.below hb); clear hb; have v1z0 := (blk_cell S3.out.v1 0).trans rfl; have v1f0 := blk_frozen S3.out.v1 0; have v2z0 := (blk_cell S3.out.v2 0).trans rfl; have v2f0 := blk_frozen S3.out.v2 0; have v1z1 := (blk_cell S3.out.v1 1).trans rfl; have v1f1 := blk_frozen S3.out.v1 1; have v2z1 := (blk_cell S3.out.v2 1).trans rfl; have v2f1 := blk_frozen S3.out.v2 1; have v1z2 := (blk_cell S3.out.v1 2).trans rfl; have v1f2 := blk_frozen S3.out.v1 2; have v2z2 := (blk_cell S3.out.v2 2).trans rfl; have v2f2 := blk_frozen S3.out.v2 2; have v1z3 := (blk_cell S3.out.v1 3).trans rfl; have v1f3 := blk_frozen S3.out.v1 3; have v2z3 := (blk_cell S3.out.v2 3).trans rfl; have v2f3 := blk_frozen S3.out.v2 3) | (go_at_call 58; (refine (has_says _ d a _ D3.out).mono ?_); rintro e w2 ⟨he, hb⟩; rw [HH.out] at he; obtain rfl := he; have S4 := Aside0.mk (S3.out.step hb); clear v1z0 v1f0 v2z0 v2f0 v1z1 v1f1 v2z1 v2f1 v1z2 v1f2 v2z2 v2f2 v1z3 v1f3 v2z3 v2f3; have v1z0 := (blk_cell S4.out.v1 0).trans rfl; have v1f0 := blk_frozen S4.out.v1 0; have v2z0 := (blk_cell S4.out.v2 0).trans rfl; have v2f0 := blk_frozen S4.out.v2 0; have v1z1 := (blk_cell S4.out.v1 1).trans rfl; have v1f1 := blk_frozen S4.out.v1 1; have v2z1 := (blk_cell S4.out.v2 1).trans rfl; have v2f1 := blk_frozen S4.out.v2 1; have v1z2 := (blk_cell S4.out.v1 2).trans rfl; have v1f2 := blk_frozen S4.out.v1 2; have v2z2 := (blk_cell S4.out.v2 2).trans rfl; have v2f2 := blk_frozen S4.out.v2 2; have v1z3 := (blk_cell S4.out.v1 3).trans rfl; have v1f3 := blk_frozen S4.out.v1 3; have v2z3 := (blk_cell S4.out.v2 3).trans rfl; have v2f3 := blk_frozen S4.out.v2 3; clear hb))
  have E := (((S4.out.set2 0 (.slice none 0 0)).set2 1 (.slice none 0 0)).set2 2 (.int .i64 0)).set2 3 (.bool false)
  refine bodyPost_ret (results_ct rfl _ _ (w.heap.size + 1) 25 #[.slice none 0 0, .slice none 0 0, .int .i64 0, .bool false] (0, 0) _ rfl E.v2 hu25 rfl info25') rfl ?_
  exact ⟨⟨_, by rw [HE.out]; rfl, by rw [HE.out]; exact diskV_zero _⟩, E.b⟩
set_option maxHeartbeats 8000000 in
set_option maxRecDepth 100000 in
theorem write_full (v v2 : Value) (d : Dk) (a : Int) (b : List Int) (w : World) (h : DiskV w v d) (h2 : BytesV w v2 b) (hr : runsD d = true) (hh : hasD d a = true) (hl : ¬ 128 < b.length) (hp : d.p.length = 4096) : Calls Try.prog 26 #[v, .int .i64 a, v2] w (DEnds w (writeD d a b)) := by
  obtain ⟨Ab, cb, rfl, hcb, hCb⟩ := h2
  have hd := h
  obtain ⟨A0, c0, A1, c1, rfl, h0, h1, hC0, hC1⟩ := h
  have S2 := Aside0.mk (WS.new w #[.slice A0 d.s.length c0, .slice A1 d.p.length c1, .int .i64 d.left, .bool d.st] #[.slice none 0 0, .slice none 0 0, .int .i64 0, .bool false])
  have D2 := Aside0.mk (hd.below S2.out.b)
  have HC0 := Aside0.mk hC0
  have HC1 := Aside0.mk hC1
  have HL := Aside0.mk (And.intro h0 h1)
  have hu25 := Try.underlying25
  clear hd h0 h1 hC0 hC1
  have HE := Aside0.mk (show writeD d a b = (zeroD, 2) from by unfold writeD; rw [if_neg (fun hn => hn ⟨hr, hh⟩), if_neg hl, if_pos hp])
  have HR := Aside0.mk hr
  have HH := Aside0.mk hh
  have q1 : decide ((128 : Int) < (b.length : Int)) = false := decide_eq_false (by omega)
  have q2 : ((d.p.length : Int) == 4096) = true := beq_iff_eq.mpr (by omega)
  clear hr hh hl hp
  go_enter Try.func26, Try.ntmps26
  go_wp2_with (first | (go_at_call 57; (refine (runs_says _ d _ D2.out).mono ?_); rintro e w1 ⟨he, hb⟩; rw [HR.out] at he; obtain rfl := he; have S3 := Aside0.mk (S2.out.step hb); have D3 := Aside0.mk (D2.out.below hb); clear hb; have v1z0 := (blk_cell S3.out.v1 0).trans rfl; have v1f0 := blk_frozen S3.out.v1 0; have v2z0 := (blk_cell S3.out.v2 0).trans rfl; have v2f0 := blk_frozen S3.out.v2 0; have v1z1 := (blk_cell S3.out.v1 1).trans rfl; have v1f1 := blk_frozen S3.out.v1 1; have v2z1 := (blk_cell S3.out.v2 1).trans rfl; have v2f1 := blk_frozen S3.out.v2 1; have v1z2 := (blk_cell S3.out.v1 2).trans rfl; have v1f2 := blk_frozen S3.out.v1 2; have v2z2 := (blk_cell S3.out.v2 2).trans rfl; have v2f2 := blk_frozen S3.out.v2 2; have v1z3 := (blk_cell S3.out.v1 3).trans rfl; have v1f3 := blk_frozen S3.out.v1 3; have v2z3 := (blk_cell S3.out.v2 3).trans rfl; have v2f3 := blk_frozen S3.out.v2 3) | (go_at_call 58; (refine (has_says _ d a _ D3.out).mono ?_); rintro e w2 ⟨he, hb⟩; rw [HH.out] at he; obtain rfl := he; have S4 := Aside0.mk (S3.out.step hb); clear v1z0 v1f0 v2z0 v2f0 v1z1 v1f1 v2z1 v2f1 v1z2 v1f2 v2z2 v2f2 v1z3 v1f3 v2z3 v2f3; have v1z0 := (blk_cell S4.out.v1 0).trans rfl; have v1f0 := blk_frozen S4.out.v1 0; have v2z0 := (blk_cell S4.out.v2 0).trans rfl; have v2f0 := blk_frozen S4.out.v2 0; have v1z1 := (blk_cell S4.out.v1 1).trans rfl; have v1f1 := blk_frozen S4.out.v1 1; have v2z1 := (blk_cell S4.out.v2 1).trans rfl; have v2f1 := blk_frozen S4.out.v2 1; have v1z2 := (blk_cell S4.out.v1 2).trans rfl; have v1f2 := blk_frozen S4.out.v1 2; have v2z2 := (blk_cell S4.out.v2 2).trans rfl; have v2f2 := blk_frozen S4.out.v2 2; have v1z3 := (blk_cell S4.out.v1 3).trans rfl; have v1f3 := blk_frozen S4.out.v1 3; have v2z3 := (blk_cell S4.out.v2 3).trans rfl; have v2f3 := blk_frozen S4.out.v2 3; clear hb))
  have E := (((S4.out.set2 0 (.slice none 0 0)).set2 1 (.slice none 0 0)).set2 2 (.int .i64 0)).set2 3 (.bool false)
  refine bodyPost_ret (results_ct rfl _ _ (w.heap.size + 1) 25 #[.slice none 0 0, .slice none 0 0, .int .i64 0, .bool false] (0, 0) _ rfl E.v2 hu25 rfl info25') rfl ?_
  exact ⟨⟨_, by rw [HE.out]; rfl, by rw [HE.out]; exact diskV_zero _⟩, E.b⟩
set_option maxHeartbeats 8000000 in
set_option maxRecDepth 100000 in
theorem write_good (v v2 : Value) (d : Dk) (a : Int) (b : List Int) (w : World) (h : DiskV w v d) (h2 : BytesV w v2 b) (hr : runsD d = true) (hh : hasD d a = true) (hl : ¬ 128 < b.length) (hp : ¬ d.p.length = 4096) : Calls Try.prog 26 #[v, .int .i64 a, v2] w (DEnds w (writeD d a b)) := by
  obtain ⟨Ab, cb, rfl, hcb, hCb⟩ := h2
  have hd := h
  obtain ⟨A0, c0, A1, c1, rfl, h0, h1, hC0, hC1⟩ := h
  have S2 := Aside0.mk (WS.new w #[.slice A0 d.s.length c0, .slice A1 d.p.length c1, .int .i64 d.left, .bool d.st] #[.slice none 0 0, .slice none 0 0, .int .i64 0, .bool false])
  have D2 := Aside0.mk (hd.below S2.out.b)
  have HC0 := Aside0.mk hC0
  have HC1 := Aside0.mk hC1
  have HL := Aside0.mk (And.intro h0 h1)
  have hu25 := Try.underlying25
  clear hd h0 h1 hC0 hC1
  have HCB := Aside0.mk hCb
  have HE := Aside0.mk (show writeD d a b = (⟨d.s, d.p ++ [⟨a, pad b⟩], d.left, d.st⟩, 0) from by unfold writeD; rw [if_neg (fun hn => hn ⟨hr, hh⟩), if_neg hl, if_neg hp])
  have HR := Aside0.mk hr
  have HH := Aside0.mk hh
  have q1 : decide ((128 : Int) < (b.length : Int)) = false := decide_eq_false (by omega)
  have q2 : ((d.p.length : Int) == 4096) = false := beq_eq_false_iff_ne.mpr (by omega)
  have HBL := Aside0.mk (show b.length ≤ 128 by omega)
  have HPL := Aside0.mk (show d.p.length ≤ 4096 by
    have h1 := hr
    unfold runsD okD numsD at h1
    simp at h1
    omega)
  obtain ⟨zs, hzs⟩ : ∃ zs, Aside0 (zs = zeros 128) := ⟨_, ⟨rfl⟩⟩
  have hmk : ∀ W : World, (Instr.makeSlice 35 (.int .i64 128) (.int .i64 128)).run Try.prog W = .ok (.slice (some ⟨W.heap.size, 0, none⟩) 128 128) (W.alloc (.cells (nums .u8 zs).toArray 5)) := fun W => by
    rw [hzs.out, show nums .u8 (zeros 128) = List.replicate 128 (.int .u8 0) by simp [nums, zeros], ← made_row]
    exact run_make_row' 35 5 (.int .u8 0) 1 Try.underlying35 info5 rfl .i64 .i64 128 (by decide) (by decide) W
  clear hr hh hl hp hcb hCb
  go_enter Try.func26, Try.ntmps26
  go_upto_region 8 with (first | (go_at_call 57; (refine (runs_says _ d _ D2.out).mono ?_); rintro e w1 ⟨he, hb⟩; rw [HR.out] at he; obtain rfl := he; have S3 := Aside0.mk (S2.out.step hb); have D3 := Aside0.mk (D2.out.below hb); clear hb; have v1z0 := (blk_cell S3.out.v1 0).trans rfl; have v1f0 := blk_frozen S3.out.v1 0; have v2z0 := (blk_cell S3.out.v2 0).trans rfl; have v2f0 := blk_frozen S3.out.v2 0; have v1z1 := (blk_cell S3.out.v1 1).trans rfl; have v1f1 := blk_frozen S3.out.v1 1; have v2z1 := (blk_cell S3.out.v2 1).trans rfl; have v2f1 := blk_frozen S3.out.v2 1; have v1z2 := (blk_cell S3.out.v1 2).trans rfl; have v1f2 := blk_frozen S3.out.v1 2; have v2z2 := (blk_cell S3.out.v2 2).trans rfl; have v2f2 := blk_frozen S3.out.v2 2; have v1z3 := (blk_cell S3.out.v1 3).trans rfl; have v1f3 := blk_frozen S3.out.v1 3; have v2z3 := (blk_cell S3.out.v2 3).trans rfl; have v2f3 := blk_frozen S3.out.v2 3) | (go_at_call 58; (refine (has_says _ d a _ D3.out).mono ?_); rintro e w2 ⟨he, hb⟩; rw [HH.out] at he; obtain rfl := he; have S4 := Aside0.mk (S3.out.step hb); clear v1z0 v1f0 v2z0 v2f0 v1z1 v1f1 v2z1 v2f1 v1z2 v1f2 v2z2 v2f2 v1z3 v1f3 v2z3 v2f3; have v1z0 := (blk_cell S4.out.v1 0).trans rfl; have v1f0 := blk_frozen S4.out.v1 0; have v2z0 := (blk_cell S4.out.v2 0).trans rfl; have v2f0 := blk_frozen S4.out.v2 0; have v1z1 := (blk_cell S4.out.v1 1).trans rfl; have v1f1 := blk_frozen S4.out.v1 1; have v2z1 := (blk_cell S4.out.v2 1).trans rfl; have v2f1 := blk_frozen S4.out.v2 1; have v1z2 := (blk_cell S4.out.v1 2).trans rfl; have v1f2 := blk_frozen S4.out.v1 2; have v2z2 := (blk_cell S4.out.v2 2).trans rfl; have v2f2 := blk_frozen S4.out.v2 2; have v1z3 := (blk_cell S4.out.v1 3).trans rfl; have v1f3 := blk_frozen S4.out.v1 3; have v2z3 := (blk_cell S4.out.v2 3).trans rfl; have v2f3 := blk_frozen S4.out.v2 3; clear hb))
  have S5 := Aside0.mk (S4.out.alloc (.cells (nums .u8 zs).toArray 5))
  have Z5 := Aside0.mk (blk_new w2 (.cells (nums .u8 zs).toArray 5))
  have HGB := Aside0.mk (blk_lt S4.out.v2)
  clear S2 S3 S4 D2 D3; clear v1z0 v1f0 v2z0 v2f0 v1z1 v1f1 v2z1 v2f1 v1z2 v1f2 v2z2 v2f2 v1z3 v1f3 v2z3 v2f3
  generalize w2.alloc (.cells (nums .u8 zs).toArray 5) = w3 at *
  generalize w2.heap.size = gb at *
  go_upto_region 9 with ((with_reducible refine gate_builtin (b := .copy) (xs := #[.tmp 32, .tmp 33]) rfl ?_); refine wpList_copy_splice rfl (.tmp 32) (.tmp 33) 35 35 rfl 5 Try.underlying35 info5s (some ⟨gb, 0, none⟩) Ab 128 128 b.length cb rfl rfl gb 0 (nums .u8 zs) 5 Z5.out (nums .u8 b) ?cn ?cp ?cf ?c1 gb w3 (Below.refl _ _) (Nat.le_refl _) ?_; (case cn => rw [nums_length]; exact (Nat.min_eq_left HBL.out).symm); (case cp => intro hp; exact ⟨rfl, int_cells (Kd.C_below HCB.out S5.out.b) hp⟩); (case cf => rw [nums_length, nums_length, hzs.out, zeros_len, Nat.zero_add]; exact HBL.out); (case c1 => exact nums_one b); intro w4 hg4 hb4; have S6 := Aside0.mk (S5.out.stepB hb4 HGB.out); have Z6 := Aside0.mk (show w4.heap[gb]? = some (.cells (nums .u8 (pad b)).toArray 5 (0, 0)) from by rw [← pad_splice, ← hzs.out]; exact hg4.out); clear hg4 hb4 S5 Z5)
  have v1z0 := (blk_cell S6.out.v1 0).trans rfl; have v1f0 := blk_frozen S6.out.v1 0; have v2z0 := (blk_cell S6.out.v2 0).trans rfl; have v2f0 := blk_frozen S6.out.v2 0; have v1z1 := (blk_cell S6.out.v1 1).trans rfl; have v1f1 := blk_frozen S6.out.v1 1; have v2z1 := (blk_cell S6.out.v2 1).trans rfl; have v2f1 := blk_frozen S6.out.v2 1; have v1z2 := (blk_cell S6.out.v1 2).trans rfl; have v1f2 := blk_frozen S6.out.v1 2; have v2z2 := (blk_cell S6.out.v2 2).trans rfl; have v2f2 := blk_frozen S6.out.v2 2; have v1z3 := (blk_cell S6.out.v1 3).trans rfl; have v1f3 := blk_frozen S6.out.v1 3; have v2z3 := (blk_cell S6.out.v2 3).trans rfl; have v2f3 := blk_frozen S6.out.v2 3
  have HPK := Aside0.mk (pad_len b HBL.out)
  have HPB := Aside0.mk (show Value.oneCell' (.int .i64 a) = true from rfl)
  go_wp2_with (first | (go_at_call 60; (refine (clone76_says A1 c1 d.p _ (apartW w) (Kd.F_mono (Kd.F_below (Kd.C_F k76_heap HC1.out) S6.out.b) (fun k hk => .inl hk)) (by have := HPL.out; omega)).mono ?_); rintro e w5 ⟨⟨vp, rfl, hn⟩, hb⟩; have hn2 := Kd.N_mono hn (ok' := apartW w) (fun k hk => hk.elim id (apartW.new S6.out.lt k)); obtain ⟨Ap, cp, rfl, hcp, -⟩ := Kd.N_reads hn2; have hCp := Kd.N_F hn2; have S7 := Aside0.mk (S6.out.step hb); have Z7 := Aside0.mk (blk_below Z6.out hb); have HCp := Aside0.mk hCp; have HCC := Aside0.mk hcp; clear v1z0 v1f0 v2z0 v2f0 v1z1 v1f1 v2z1 v2f1 v1z2 v1f2 v2z2 v2f2 v1z3 v1f3 v2z3 v2f3; clear hb hn hn2 hCp hcp S6 Z6) | (go_at_call 59; (refine (clip76_says Ap _ cp _ HCC.out (by have := HPL.out; omega)).mono ?_); rintro e w6 ⟨rfl, rfl⟩) | ((with_reducible refine gate_builtin (b := .append) (xs := #[.tmp 38, .tmp 42]) rfl ?_); refine wp_append_full k76 rfl (.tmp 38) (.tmp 42) 23 76 (.agg #[(.int .i64 0), (.slice none 0 0)]) 32 rfl Try.underlying23 info76 rfl (by decide) (by decide) Ap d.p.length d.p ⟨a, pad b⟩ [.int .i64 a, .slice (some ⟨gb, 0, none⟩) 128 128] (apartW w) rfl HCp.out rfl (show Kd.FK k76 _ (apartW w) ⟨a, pad b⟩ [.int .i64 a, .slice (some ⟨gb, 0, none⟩) 128 128] from by have h_ := k76_mkF w5 (apartW w) ⟨a, pad b⟩ (A1 := some ⟨gb, 0, none⟩) (c1 := 128) (by rw [HPK.out]; exact Nat.le_refl _) (bytes_F Z7.out (.inr HGB.out) (by rw [HPK.out]; decide)); rw [HPK.out] at h_; exact h_) (apartW.new S7.out.lt) (by have := HPL.out; omega) ?_; intro v' w7 hN' hb'; obtain ⟨A', c', hv', hc', -⟩ := Kd.N_reads hN'; rw [show (d.p ++ [(⟨a, pad b⟩ : S76)]).length = d.p.length + 1 from List.length_append] at hv' hc'; subst hv'; have S8 := Aside0.mk (S7.out.step hb'); have N8 := Aside0.mk hN'; have HCC8 := Aside0.mk hc'; clear hc' hN' hb' S7 Z7; have v1z0 := (blk_cell S8.out.v1 0).trans rfl; have v1f0 := blk_frozen S8.out.v1 0; have v2z0 := (blk_cell S8.out.v2 0).trans rfl; have v2f0 := blk_frozen S8.out.v2 0; have v1z1 := (blk_cell S8.out.v1 1).trans rfl; have v1f1 := blk_frozen S8.out.v1 1; have v2z1 := (blk_cell S8.out.v2 1).trans rfl; have v2f1 := blk_frozen S8.out.v2 1; have v1z2 := (blk_cell S8.out.v1 2).trans rfl; have v1f2 := blk_frozen S8.out.v1 2; have v2z2 := (blk_cell S8.out.v2 2).trans rfl; have v2f2 := blk_frozen S8.out.v2 2; have v1z3 := (blk_cell S8.out.v1 3).trans rfl; have v1f3 := blk_frozen S8.out.v1 3; have v2z3 := (blk_cell S8.out.v2 3).trans rfl; have v2f3 := blk_frozen S8.out.v2 3))
  have E := (((((S8.out.set1 1 (.slice A' (d.p.length + 1) c')).set2 0 (.slice A0 d.s.length c0)).set2 1 (.slice A' (d.p.length + 1) c')).set2 2 (.int .i64 d.left)).set2 3 (.bool d.st))

  have NE := Kd.N_far (p := ⟨w.heap.size + 1, 3, none⟩) (Kd.N_far (p := ⟨w.heap.size + 1, 2, none⟩) (Kd.N_far (p := ⟨w.heap.size + 1, 1, none⟩) (Kd.N_far (p := ⟨w.heap.size + 1, 0, none⟩) (Kd.N_far (p := ⟨w.heap.size, 1, none⟩) N8.out apartW.ne1 (.slice A' (d.p.length + 1) c')) apartW.ne2 (.slice A0 d.s.length c0)) apartW.ne2 (.slice A' (d.p.length + 1) c')) apartW.ne2 (.int .i64 d.left)) apartW.ne2 (.bool d.st)
  refine bodyPost_ret (results_ct rfl _ _ (w.heap.size + 1) 25 #[.slice A0 d.s.length c0, .slice A' (d.p.length + 1) c', .int .i64 d.left, .bool d.st] (0, 0) _ rfl E.v2 hu25 rfl info25') rfl ?_
  refine ⟨⟨_, by rw [HE.out]; rfl, ?_⟩, E.b⟩
  rw [HE.out]
  have hlen : (d.p ++ [(⟨a, pad b⟩ : S76)]).length = d.p.length + 1 := List.length_append
  have hC2 := (Kd.N_reads' NE).2.2
  exact ⟨A0, c0, A', c', by rw [hlen], HL.out.1, by rw [hlen]; exact HCC8.out, Kd.C_below HC0.out E.b, hC2⟩
theorem write_says (v v2 : Value) (d : Dk) (a : Int) (b : List Int) (w : World) (h : DiskV w v d) (h2 : BytesV w v2 b) : Calls Try.prog 26 #[v, .int .i64 a, v2] w (DEnds w (writeD d a b)) := by
  by_cases hr : runsD d = true ∧ hasD d a = true
  · by_cases hl : 128 < b.length
    · exact write_long v v2 d a b w h h2 hr.1 hr.2 hl
    · by_cases hp : d.p.length = 4096
      · exact write_full v v2 d a b w h h2 hr.1 hr.2 hl hp
      · exact write_good v v2 d a b w h h2 hr.1 hr.2 hl hp
  · exact write_bad v v2 d a b w h h2 hr
end Go.Proofs.Ytlnmjgkeiljniaa.Q
/- disk.perform. -/
namespace Go.Proofs.Ytlnmjgkeiljniaa.Q
open Go.RowKit Go.Proofs.YtlnmjgkeiljniaaW.PrintWords Go.Proofs.YtlnmjgkeiljniaaW.PrintLast Go.Proofs.YtlnmjgkeiljniaaW.PrintMore
set_option linter.unusedVariables false
set_option linter.unusedSimpArgs false
theorem performD_snoc (s : List (List Int)) (p : List S76) (x : S76) : performD s (p ++ [x]) = (performD s p).set x.f0.toNat x.f1 := by unfold performD; rw [List.foldl_append]; rfl
theorem performD_len (s : List (List Int)) (p : List S76) : (performD s p).length = s.length := by
  unfold performD
  induction p generalizing s with
  | nil => rfl
  | cons x p ih => rw [List.foldl_cons, ih, List.length_set]
theorem take_snoc76 (p : List S76) (i : Nat) (h : i < p.length) : p.take (i + 1) = p.take i ++ [p[i]] := by rw [List.take_succ_eq_append_getElem h]
theorem fk_sec {W : World} {ok : Nat → Prop} {l : List Int} {A : Option Addr} {c : Nat} (hl : l.length ≤ c) (h : Kd.F (Kd.int .u8) W ok A l.length l) : Kd.FK (Kd.slice 5 (Kd.int .u8)) W ok l [.slice A l.length c] := fun W' hW => ⟨A, c, rfl, hl, h W' hW⟩
set_option maxHeartbeats 8000000 in
set_option maxRecDepth 100000 in
theorem perform_says (A0 A1 : Option Addr) (c0 c1 : Nat) (s : List (List Int)) (p : List S76) (w : World) (okp : Nat → Prop) (h0 : Kd.F (Kd.slice 5 (Kd.int .u8)) w okp A0 s.length s) (h1 : Kd.F k76 w okp A1 p.length p) (hv : ∀ x ∈ p, 0 ≤ x.f0 ∧ x.f0 < s.length) (hb : s.length * 24 ≤ 140737488355328) :
    Calls Try.prog 62 #[.slice A0 s.length c0, .slice A1 p.length c1] w fun e w' => (∃ v, e = .returned v ∧ Kd.N (Kd.slice 5 (Kd.int .u8)) 35 w' w.heap.size (fun k => okp k ∨ w.heap.size ≤ k) v (performD s p)) ∧ Below w.heap.size w w' := by
  have C := Aside0.mk (clone35_says A0 c0 s w okp h0 hb)
  have H1 := Aside0.mk (Kd.F_bound h1)
  have HV := Aside0.mk hv
  have HPM := Aside0.mk (Kd.F_max h1)
  clear h0 h1 hv hb
  go_enter Try.func62, Try.ntmps62
  go_wp2_with (go_at_call 81; refine C.out.mono ?_; rintro e w1 ⟨⟨v, rfl, hn⟩, hb⟩; have N1 := Aside0.mk hn; have B1 := Aside0.mk hb; obtain ⟨Av, cv, rfl⟩ := Kd.N_slice hn; clear hn hb)
  go_loopg [12] p.length (fun kq v12 w' => ∃ i : Nat, v12 = .int .i64 i ∧ Aside0 (i ≤ p.length ∧ kq + i = p.length) ∧ Aside0 (Kd.N (Kd.slice 5 (Kd.int .u8)) 35 w' w.heap.size (fun k => okp k ∨ w.heap.size ≤ k) (.slice Av s.length cv) (performD s (p.take i))) ∧ Aside0 (Below w.heap.size w w'))
  case atStart => exact ⟨0, rfl, ⟨by omega⟩, N1, B1⟩
  clear N1 B1
  obtain ⟨i, rfl, HI, HN, HW⟩ := hrel
  by_cases hi : i < p.length
  · have hi0 : decide (i < p.length) = true := decide_eq_true hi
    have hw := Aside0.mk (show wrap64 ((i : Int) + 1) = ((i + 1 : Nat) : Int) by have := HPM.out; unfold wrap64; omega)
    obtain ⟨ad, cx, rfl, hcl, hfk, hcc, hokb⟩ := Kd.F_get (Kd.F_below H1.out HW.out) z76 (i : Int) (by omega) (by omega)
    have hgx : p.getD ((i : Int)).toNat z76 = p[i] := by rw [show ((i : Int)).toNat = i by omega]; simp [List.getD_eq_getElem?_getD, List.getElem?_eq_getElem hi]
    rw [hgx] at hfk
    have hvx := HV.out _ (List.getElem_mem hi)
    have htk := Aside0.mk (take_snoc76 p i hi)
    generalize p[i] = x at *
    obtain ⟨Ax, ccx, rfl, hlx, hFx⟩ := k76_openF hfk
    have hx0 : wr.cell? (ad.add (i * 2)) = some (.int .i64 x.f0) := by have h_ := hcc 0 _ rfl; rw [show ((i : Int)).toNat = i by omega] at h_; exact h_
    have hx1 : wr.cell? ⟨(ad.add (i * 2)).block, (ad.add (i * 2)).off + 1, none⟩ = some (.slice Ax x.f1.length ccx) := by
      have h_ := hcc 1 _ rfl
      rw [show ((i : Int)).toNat = i by omega] at h_
      rw [← add_field _ _ 1 (by omega)]
      exact h_
    have HFX := Aside0.mk (fk_sec hlx hFx)
    have hx00 := hvx.1
    have hx01 : x.f0 < (s.length : Int) := hvx.2
    have HVX := Aside0.mk hvx
    clear hgx hcl hcc hfk hokb hlx hFx hvx
    go_upto_region 5 with (fail)
    have HW4 := Aside0.mk (below_alloc HW.out (.cells #[.int .i64 x.f0, .slice Ax x.f1.length ccx] 76))
    have HF4 := Aside0.mk (Kd.FK_below HFX.out (below_alloc (Below.refl wr.heap.size wr) (.cells #[.int .i64 x.f0, .slice Ax x.f1.length ccx] 76)))
    have HN4 := Kd.N_alloc HN.out (.cells #[.int .i64 x.f0, .slice Ax x.f1.length ccx] 76)
    have bz := blk_new wr (.cells #[.int .i64 x.f0, .slice Ax x.f1.length ccx] 76)
    have bz0 := (blk_cell bz 0).trans rfl
    have bz1 := (blk_cell bz 1).trans rfl
    generalize wr.alloc (.cells #[.int .i64 x.f0, .slice Ax x.f1.length ccx] 76) = w4 at *
    clear bz
    obtain ⟨g, cap, he, hge, -, -⟩ := Kd.N_form HN4 (by rw [performD_len]; omega)
    injection he with hea hel hec
    subst hea
    subst hec
    obtain ⟨cq, hcl, -, hcc, hfr⟩ := Kd.N_elem HN4 ([] : List Int) x.f0 HVX.out.1 HVX.out.2
    obtain ⟨q, rfl⟩ : ∃ q, cq = [q] := List.length_eq_one_iff.1 hcl
    have HN4 := Aside0.mk HN4
    have HCC := Aside0.mk hcc
    have HGE := Aside0.mk hge
    have hq0 : w4.cell? ⟨g, x.f0.toNat, none⟩ = some q := by have h_ := hcc 0 q rfl; rw [show x.f0.toNat * (Kd.slice 5 (Kd.int .u8)).sz + 0 = x.f0.toNat from Nat.mul_one _] at h_; exact h_
    clear hcl hcc hge hel hfr HN HW HFX
    go_wp2_with ((with_reducible refine gate_store (t := 35) (p := 21) (v := .tmp 20) rfl ?_); go_loud (refine Kd.N_store (Kd.slice 5 (Kd.int .u8)) (w0 := w) w.heap.size rfl rfl 35 (.tmp 21) (.tmp 20) rfl 35 x.f0 0 (performD s (p.take i)) x.f1 (.slice Ax x.f1.length ccx) [.slice Ax x.f1.length ccx] [q] (fun k => okp k ∨ w.heap.size ≤ k) (fun k => okp k ∧ k < w.heap.size) rfl ?ho rfl rfl (by kernel_rfl) (by intro q hq; rw [List.mem_singleton.1 hq]; rfl) HN4.out HVX.out.1 HVX.out.2 rfl HCC.out (Nat.le_refl 1) HF4.out (fun k hk => ⟨.inl hk.1, by have := HGE.out; omega⟩) HW4.out ?_; (case ho => exact (Nat.mul_one _).symm); intro w5 hn5 hb5 _; have N5 := Aside0.mk hn5; have B5 := Aside0.mk hb5; clear hn5 hb5))
    go_roundg (gk - 1)
    case measure => have := HI.out; omega
    case rel => exact ⟨i + 1, by rw [hw.out], ⟨by have := HI.out; omega⟩, ⟨by rw [htk.out, performD_snoc]; exact N5.out⟩, B5⟩
  · have hi0 : decide (i < p.length) = false := decide_eq_false hi
    go_wp2
    go_ret
    have hie : i = p.length := by have := HI.out; omega
    exact ⟨⟨_, rfl, by have h_ := HN.out; rwa [hie, List.take_length] at h_⟩, HW.out⟩
end Go.Proofs.Ytlnmjgkeiljniaa.Q
/- disk.Sync. -/
namespace Go.Proofs.Ytlnmjgkeiljniaa.Q
open Go.RowKit Go.Proofs.YtlnmjgkeiljniaaW.PrintWords Go.Proofs.YtlnmjgkeiljniaaW.PrintLast Go.Proofs.YtlnmjgkeiljniaaW.PrintMore
set_option linter.unusedVariables false
set_option linter.unusedSimpArgs false
theorem w64sub (a : Int) (n : Nat) (h0 : -1 ≤ a) (h1 : a ≤ 65536) (h2 : n ≤ 4096) : wrap64 (a - (n : Int)) = a - (n : Int) := by unfold wrap64; omega
theorem runs_ok {d : Dk} (h : runsD d = true) : d.s.length ≤ 4096 ∧ d.p.length ≤ 4096 ∧ -1 ≤ d.left ∧ d.left ≤ 65536 ∧ 1 ≤ d.s.length ∧ (∀ x ∈ d.p, 0 ≤ x.f0 ∧ x.f0 < d.s.length ∧ x.f1.length = 128) ∧ (∀ b ∈ d.s, b.length = 128) := by
  unfold runsD okD numsD at h
  simp only [Bool.and_eq_true, Bool.not_eq_true', Bool.or_eq_false_iff, decide_eq_false_iff_not, List.any_eq_false] at h
  obtain ⟨⟨⟨h1, h2, h3, h4, h5⟩, h6, h7⟩, -⟩ := h
  refine ⟨by omega, by omega, by omega, by omega, by omega, fun x hx => ?_, fun b hb => ?_⟩
  · have := h6 x hx
    unfold badW secB at this
    simp only [Bool.or_eq_true, decide_eq_true_eq, Bool.not_eq_true', beq_eq_false_iff_ne, not_or] at this
    omega
  · have := h7 b hb
    unfold secB at this
    simp only [Bool.not_eq_true', beq_eq_false_iff_ne] at this
    omega
set_option maxHeartbeats 8000000 in
set_option maxRecDepth 100000 in
theorem sync_bad (v : Value) (d : Dk) (w : World) (h : DiskV w v d) (hr : runsD d = false) : Calls Try.prog 30 #[v] w (DEnds w (syncD d)) := by
  have hd := h
  obtain ⟨A0, c0, A1, c1, rfl, h0, h1, hC0, hC1⟩ := h
  have S2 := Aside0.mk (WS.new w #[.slice A0 d.s.length c0, .slice A1 d.p.length c1, .int .i64 d.left, .bool d.st] #[.slice none 0 0, .slice none 0 0, .int .i64 0, .bool false])
  have D2 := Aside0.mk (hd.below S2.out.b)
  have HC0 := Aside0.mk hC0
  have HC1 := Aside0.mk hC1
  have HL := Aside0.mk (And.intro h0 h1)
  have hu25 := Try.underlying25
  clear hd h0 h1 hC0 hC1
  have HE := Aside0.mk (show syncD d = (zeroD, 450) from by unfold syncD; rw [hr]; rfl)
  have HR := Aside0.mk hr
  clear hr
  go_enter Try.func30, Try.ntmps30
  go_wp2_with (go_at_call 57; (refine (runs_says _ d _ D2.out).mono ?_); rintro e w1 ⟨he, hb⟩; rw [HR.out] at he; obtain rfl := he; have S3 := Aside0.mk (S2.out.step hb); have D3 := Aside0.mk (D2.out.below hb); clear hb; have v1z0 := (blk_cell S3.out.v1 0).trans rfl; have v1f0 := blk_frozen S3.out.v1 0; have v2z0 := (blk_cell S3.out.v2 0).trans rfl; have v2f0 := blk_frozen S3.out.v2 0; have v1z1 := (blk_cell S3.out.v1 1).trans rfl; have v1f1 := blk_frozen S3.out.v1 1; have v2z1 := (blk_cell S3.out.v2 1).trans rfl; have v2f1 := blk_frozen S3.out.v2 1; have v1z2 := (blk_cell S3.out.v1 2).trans rfl; have v1f2 := blk_frozen S3.out.v1 2; have v2z2 := (blk_cell S3.out.v2 2).trans rfl; have v2f2 := blk_frozen S3.out.v2 2; have v1z3 := (blk_cell S3.out.v1 3).trans rfl; have v1f3 := blk_frozen S3.out.v1 3; have v2z3 := (blk_cell S3.out.v2 3).trans rfl; have v2f3 := blk_frozen S3.out.v2 3)
  have E := (((S3.out.set2 0 (.slice none 0 0)).set2 1 (.slice none 0 0)).set2 2 (.int .i64 0)).set2 3 (.bool false)
  refine bodyPost_ret (results_ct rfl _ _ (w.heap.size + 1) 25 #[.slice none 0 0, .slice none 0 0, .int .i64 0, .bool false] (0, 0) _ rfl E.v2 hu25 rfl info25') rfl ?_
  exact ⟨⟨_, by rw [HE.out]; rfl, by rw [HE.out]; exact diskV_zero _⟩, E.b⟩
set_option maxHeartbeats 8000000 in
set_option maxRecDepth 100000 in
theorem sync_all (v : Value) (d : Dk) (w : World) (h : DiskV w v d) (hr : runsD d = true) (hl : ¬ (0 ≤ d.left ∧ d.left < d.p.length)) : Calls Try.prog 30 #[v] w (DEnds w (syncD d)) := by
  have hd := h
  obtain ⟨A0, c0, A1, c1, rfl, h0, h1, hC0, hC1⟩ := h
  have S2 := Aside0.mk (WS.new w #[.slice A0 d.s.length c0, .slice A1 d.p.length c1, .int .i64 d.left, .bool d.st] #[.slice none 0 0, .slice none 0 0, .int .i64 0, .bool false])
  have D2 := Aside0.mk (hd.below S2.out.b)
  have HC0 := Aside0.mk hC0
  have HC1 := Aside0.mk hC1
  have HL := Aside0.mk (And.intro h0 h1)
  have hu25 := Try.underlying25
  clear hd h0 h1 hC0 hC1
  have HOK := Aside0.mk (runs_ok hr)
  have HE := Aside0.mk (show syncD d = (⟨performD d.s d.p, [], if 0 ≤ d.left then d.left - d.p.length else d.left, false⟩, 0) from by unfold syncD; rw [if_pos hr, if_neg hl])
  have HR := Aside0.mk hr
  have HLF := Aside0.mk hl
  clear hr hl
  cases q0 : decide (0 ≤ d.left) with
  | false =>
    have HQ := Aside0.mk q0
    have q1 : decide ((d.left : Int) < (d.p.length : Int)) = decide ((d.left : Int) < (d.p.length : Int)) := rfl
    clear q1
    go_enter Try.func30, Try.ntmps30
    go_upto_region 12 with (go_at_call 57; (refine (runs_says _ d _ D2.out).mono ?_); rintro e w1 ⟨he, hb⟩; rw [HR.out] at he; obtain rfl := he; have S3 := Aside0.mk (S2.out.step hb); have D3 := Aside0.mk (D2.out.below hb); clear hb; have v1z0 := (blk_cell S3.out.v1 0).trans rfl; have v1f0 := blk_frozen S3.out.v1 0; have v2z0 := (blk_cell S3.out.v2 0).trans rfl; have v2f0 := blk_frozen S3.out.v2 0; have v1z1 := (blk_cell S3.out.v1 1).trans rfl; have v1f1 := blk_frozen S3.out.v1 1; have v2z1 := (blk_cell S3.out.v2 1).trans rfl; have v2f1 := blk_frozen S3.out.v2 1; have v1z2 := (blk_cell S3.out.v1 2).trans rfl; have v1f2 := blk_frozen S3.out.v1 2; have v2z2 := (blk_cell S3.out.v2 2).trans rfl; have v2f2 := blk_frozen S3.out.v2 2; have v1z3 := (blk_cell S3.out.v1 3).trans rfl; have v1f3 := blk_frozen S3.out.v1 3; have v2z3 := (blk_cell S3.out.v2 3).trans rfl; have v2f3 := blk_frozen S3.out.v2 3)
    have S4 := Aside0.mk S3.out.drew
    clear v1z0 v1f0 v2z0 v2f0 v1z1 v1f1 v2z1 v2f1 v1z2 v1f2 v2z2 v2f2 v1z3 v1f3 v2z3 v2f3
    clear S2 S3 D2 D3
    refine start_ (n := 9) (S := fun w' => w'.cell? ⟨w.heap.size, 0, none⟩ = some (.slice A0 d.s.length c0) ∧ w'.cell? ⟨w.heap.size, 1, none⟩ = some (.slice A1 d.p.length c1) ∧ w'.cell? ⟨w.heap.size, 2, none⟩ = some (.int .i64 d.left)) (ds := [8]) #[false, false, false, false, false, false, false, false, false] (by kernel_rfl) rfl rfl ⟨(blk_cell S4.out.v1 0).trans rfl, (blk_cell S4.out.v1 1).trans rfl, (blk_cell S4.out.v1 2).trans rfl⟩ (fun hHeld => ?_)
    generalize w1.drew = w4 at *
    refine pure_ (i := 0) (N := some 61) (v := ?_) (a' := ?_) #[true, false, false, false, false, false, false, false, false] rfl rfl (by kernel_rfl) (fun _ _ _ h => h) (Or.inl ⟨by rfl, ?_⟩) ?_ ?_
    rotate_left
    · intro w'
      go_simp
      with_reducible rfl
    rotate_left
    · simp only [Act.put, List.setIfInBounds_toArray, List.set_cons_zero, List.set_cons_succ, i64_w, i32_w]
      rfl
    refine take_ (i := 1) (N := some 62) (v := ?_) (a' := ?_) #[true, true, false, false, false, false, false, false, false] rfl rfl (by kernel_rfl) (fun _ _ _ h => h) (Or.inl ⟨by rfl, ?_⟩) hHeld ?_ ?_
    rotate_left
    · rintro w' ⟨s0, s1, s2⟩
      go_simp
      with_reducible rfl
    rotate_left
    · simp only [Act.put, List.setIfInBounds_toArray, List.set_cons_zero, List.set_cons_succ, i64_w, i32_w]
      rfl
    refine pure_ (i := 2) (N := some 63) (v := ?_) (a' := ?_) #[true, true, true, false, false, false, false, false, false] rfl rfl (by kernel_rfl) (fun _ _ _ h => h) (Or.inl ⟨by rfl, ?_⟩) ?_ ?_
    rotate_left
    · intro w'
      go_simp
      with_reducible rfl
    rotate_left
    · simp only [Act.put, List.setIfInBounds_toArray, List.set_cons_zero, List.set_cons_succ, i64_w, i32_w]
      rfl
    refine take_ (i := 3) (N := some 64) (v := ?_) (a' := ?_) #[true, true, true, true, false, false, false, false, false] rfl rfl (by kernel_rfl) (fun _ _ _ h => h) (Or.inl ⟨by rfl, ?_⟩) hHeld ?_ ?_
    rotate_left
    · rintro w' ⟨s0, s1, s2⟩
      go_simp
      with_reducible rfl
    rotate_left
    · simp only [Act.put, List.setIfInBounds_toArray, List.set_cons_zero, List.set_cons_succ, i64_w, i32_w]
      rfl
    refine pure_ (i := 5) (N := some 66) (v := ?_) (a' := ?_) #[true, true, true, true, false, true, false, false, false] rfl rfl (by kernel_rfl) (fun _ _ _ h => h) (Or.inl ⟨by rfl, ?_⟩) ?_ ?_
    rotate_left
    · intro w'
      go_simp
      with_reducible rfl
    rotate_left
    · simp only [Act.put, List.setIfInBounds_toArray, List.set_cons_zero, List.set_cons_succ, i64_w, i32_w]
      rfl
    refine take_ (i := 6) (N := some 67) (v := ?_) (a' := ?_) #[true, true, true, true, false, true, true, false, false] rfl rfl (by kernel_rfl) (fun _ _ _ h => h) (Or.inl ⟨by rfl, ?_⟩) hHeld ?_ ?_
    rotate_left
    · rintro w' ⟨s0, s1, s2⟩
      go_simp
      with_reducible rfl
    rotate_left
    · simp only [Act.put, List.setIfInBounds_toArray, List.set_cons_zero, List.set_cons_succ, i64_w, i32_w]
      rfl
    refine one_ (i := 4) (N := some 65) #[true, true, true, true, true, true, true, false, false] rfl rfl (by kernel_rfl) (by decide) (fun K hK => ?_)
    refine goes_ Try.func62 (by kernel_rfl) rfl #[.slice A0 d.s.length c0, .slice A1 d.p.length c1] (by rfl) rfl rfl (by (try simp only [List.map_toArray, List.map_cons, List.map_nil]); first | done | rfl) ?_
    refine (perform_says A0 A1 c0 c1 d.s d.p _ (fun k => k < w.heap.size) (Kd.F_below (Kd.C_F kSec_heap HC0.out) S4.out.b) (Kd.F_below (Kd.C_F k76_heap HC1.out) S4.out.b) (fun x hx => ⟨(HOK.out.2.2.2.2.2.1 x hx).1, (HOK.out.2.2.2.2.2.1 x hx).2.1⟩) (by have := HOK.out.1; omega)).mono ?_
    rintro e w5 ⟨⟨vs, he, hn⟩, hb⟩
    obtain ⟨As, cs, hvs⟩ := Kd.N_slice hn
    rw [performD_len] at hvs
    subst hvs
    subst he
    refine ⟨_, rfl, ?_⟩
    have S5 := Aside0.mk (S4.out.step hb)
    have N5 := Aside0.mk (Kd.N_mono hn (ok' := apartW w) (fun k hk => hk.elim (fun h => .inl h) (apartW.new S4.out.lt k)))
    clear hn hb
    refine hK.out _ _ ⟨(blk_cell S5.out.v1 0).trans rfl, (blk_cell S5.out.v1 1).trans rfl, (blk_cell S5.out.v1 2).trans rfl⟩ (fun hHeld => ?_)
    clear hK K
    refine norm_ (a' := ?_) ?_ ?_
    rotate_left
    · show Act.put _ (some 65) _ = _
      simp only [Act.put, List.setIfInBounds_toArray, List.set_cons_zero, List.set_cons_succ, i64_w, i32_w]
      rfl
    refine pure_ (i := 7) (N := some 68) (v := ?_) (a' := ?_) #[true, true, true, true, true, true, true, true, false] rfl rfl (by kernel_rfl) (fun _ _ _ h => h) (Or.inl ⟨by rfl, ?_⟩) ?_ ?_
    rotate_left
    · intro w'
      go_simp
      with_reducible rfl
    rotate_left
    · simp only [Act.put, List.setIfInBounds_toArray, List.set_cons_zero, List.set_cons_succ, i64_w, i32_w]
      rfl
    refine last_ (i := 8) (N := none) #[true, true, true, true, true, true, true, true, true] rfl rfl (by kernel_rfl) (by decide) (fun K hK => ?_)
    have v1z0 := (blk_cell S5.out.v1 0).trans rfl; have v1f0 := blk_frozen S5.out.v1 0; have v2z0 := (blk_cell S5.out.v2 0).trans rfl; have v2f0 := blk_frozen S5.out.v2 0; have v1z1 := (blk_cell S5.out.v1 1).trans rfl; have v1f1 := blk_frozen S5.out.v1 1; have v2z1 := (blk_cell S5.out.v2 1).trans rfl; have v2f1 := blk_frozen S5.out.v2 1; have v1z2 := (blk_cell S5.out.v1 2).trans rfl; have v1f2 := blk_frozen S5.out.v1 2; have v2z2 := (blk_cell S5.out.v2 2).trans rfl; have v2f2 := blk_frozen S5.out.v2 2; have v1z3 := (blk_cell S5.out.v1 3).trans rfl; have v1f3 := blk_frozen S5.out.v1 3; have v2z3 := (blk_cell S5.out.v2 3).trans rfl; have v2f3 := blk_frozen S5.out.v2 3
    refine skip_ (w1 := ?_) (by rfl) rfl ?_ ?_
    rotate_left
    · go_simp
      rfl
    refine hK.out _ _ ?_
    clear hK K
    refine done_ (by kernel_rfl) ?_
    have S6 := Aside0.mk (show WS w ((((w5.setCell ⟨w.heap.size + 1, 0, none⟩ (.slice As d.s.length cs)).setCell ⟨w.heap.size + 1, 1, none⟩ (.slice none 0 0)).setCell ⟨w.heap.size + 1, 2, none⟩ (.int .i64 d.left)).setCell ⟨w.heap.size + 1, 3, none⟩ (.bool false)) #[.slice A0 d.s.length c0, .slice A1 d.p.length c1, .int .i64 d.left, .bool d.st] #[.slice As d.s.length cs, .slice none 0 0, .int .i64 d.left, .bool false] from ((((S5.out.set2 0 (.slice As d.s.length cs)).set2 1 (.slice none 0 0)).set2 2 (.int .i64 d.left)).set2 3 (.bool false)))
    have N6 := Aside0.mk (Kd.N_far (p := ⟨w.heap.size + 1, 3, none⟩) (Kd.N_far (p := ⟨w.heap.size + 1, 2, none⟩) (Kd.N_far (p := ⟨w.heap.size + 1, 1, none⟩) (Kd.N_far (p := ⟨w.heap.size + 1, 0, none⟩) N5.out apartW.ne2 (.slice As d.s.length cs)) apartW.ne2 (.slice none 0 0)) apartW.ne2 (.int .i64 d.left)) apartW.ne2 (.bool false))
    clear v1z0 v1f0 v2z0 v2f0 v1z1 v1f1 v2z1 v2f1 v1z2 v1f2 v2z2 v2f2 v1z3 v1f3 v2z3 v2f3
    clear S5 N5
    generalize ((((w5.setCell ⟨w.heap.size + 1, 0, none⟩ (.slice As d.s.length cs)).setCell ⟨w.heap.size + 1, 1, none⟩ (.slice none 0 0)).setCell ⟨w.heap.size + 1, 2, none⟩ (.int .i64 d.left)).setCell ⟨w.heap.size + 1, 3, none⟩ (.bool false)) = w6 at *
    have v1z0 := (blk_cell S6.out.v1 0).trans rfl; have v1f0 := blk_frozen S6.out.v1 0; have v2z0 := (blk_cell S6.out.v2 0).trans rfl; have v2f0 := blk_frozen S6.out.v2 0; have v1z1 := (blk_cell S6.out.v1 1).trans rfl; have v1f1 := blk_frozen S6.out.v1 1; have v2z1 := (blk_cell S6.out.v2 1).trans rfl; have v2f1 := blk_frozen S6.out.v2 1; have v1z2 := (blk_cell S6.out.v1 2).trans rfl; have v1f2 := blk_frozen S6.out.v1 2; have v2z2 := (blk_cell S6.out.v2 2).trans rfl; have v2f2 := blk_frozen S6.out.v2 2; have v1z3 := (blk_cell S6.out.v1 3).trans rfl; have v1f3 := blk_frozen S6.out.v1 3; have v2z3 := (blk_cell S6.out.v2 3).trans rfl; have v2f3 := blk_frozen S6.out.v2 3
    go_wp2
    have S7 := S6.out
    have N7 := N6.out
    have E := ((((S7.set2 0 (.slice As d.s.length cs)).set2 1 (.slice none 0 0)).set2 2 (.int .i64 d.left)).set2 3 (.bool false))
    have N8 := (Kd.N_far (p := ⟨w.heap.size + 1, 3, none⟩) (Kd.N_far (p := ⟨w.heap.size + 1, 2, none⟩) (Kd.N_far (p := ⟨w.heap.size + 1, 1, none⟩) (Kd.N_far (p := ⟨w.heap.size + 1, 0, none⟩) N7 apartW.ne2 (.slice As d.s.length cs)) apartW.ne2 (.slice none 0 0)) apartW.ne2 (.int .i64 d.left)) apartW.ne2 (.bool false))
    refine bodyPost_ret (results_ct rfl _ _ (w.heap.size + 1) 25 #[.slice As d.s.length cs, .slice none 0 0, .int .i64 d.left, .bool false] (0, 0) _ rfl E.v2 hu25 rfl info25') rfl ?_
    refine ⟨⟨_, by rw [HE.out]; rfl, ?_⟩, E.b⟩
    rw [HE.out]
    have hlen := performD_len d.s d.p
    have hif : (if 0 ≤ d.left then d.left - d.p.length else d.left) = d.left := if_neg (of_decide_eq_false HQ.out)
    rw [hif]
    exact ⟨As, cs, none, 0, by rw [hlen]; rfl, by rw [hlen]; have h_ := Kd.N_reads' N8; rw [hlen] at h_; exact h_.2.1, Nat.le_refl _, (by have h_ := (Kd.N_reads' N8).2.2; exact h_), Kd.C_nil _ _⟩
  | true =>
    have HQ := Aside0.mk q0
    have q1 : decide ((d.left : Int) < (d.p.length : Int)) = false := decide_eq_false (by have := of_decide_eq_true q0; have := HLF.out; omega)
    go_enter Try.func30, Try.ntmps30
    go_upto_region 12 with (go_at_call 57; (refine (runs_says _ d _ D2.out).mono ?_); rintro e w1 ⟨he, hb⟩; rw [HR.out] at he; obtain rfl := he; have S3 := Aside0.mk (S2.out.step hb); have D3 := Aside0.mk (D2.out.below hb); clear hb; have v1z0 := (blk_cell S3.out.v1 0).trans rfl; have v1f0 := blk_frozen S3.out.v1 0; have v2z0 := (blk_cell S3.out.v2 0).trans rfl; have v2f0 := blk_frozen S3.out.v2 0; have v1z1 := (blk_cell S3.out.v1 1).trans rfl; have v1f1 := blk_frozen S3.out.v1 1; have v2z1 := (blk_cell S3.out.v2 1).trans rfl; have v2f1 := blk_frozen S3.out.v2 1; have v1z2 := (blk_cell S3.out.v1 2).trans rfl; have v1f2 := blk_frozen S3.out.v1 2; have v2z2 := (blk_cell S3.out.v2 2).trans rfl; have v2f2 := blk_frozen S3.out.v2 2; have v1z3 := (blk_cell S3.out.v1 3).trans rfl; have v1f3 := blk_frozen S3.out.v1 3; have v2z3 := (blk_cell S3.out.v2 3).trans rfl; have v2f3 := blk_frozen S3.out.v2 3)
    have S4 := Aside0.mk S3.out.drew
    clear v1z0 v1f0 v2z0 v2f0 v1z1 v1f1 v2z1 v2f1 v1z2 v1f2 v2z2 v2f2 v1z3 v1f3 v2z3 v2f3
    clear S2 S3 D2 D3
    refine start_ (n := 9) (S := fun w' => w'.cell? ⟨w.heap.size, 0, none⟩ = some (.slice A0 d.s.length c0) ∧ w'.cell? ⟨w.heap.size, 1, none⟩ = some (.slice A1 d.p.length c1) ∧ w'.cell? ⟨w.heap.size, 2, none⟩ = some (.int .i64 d.left)) (ds := [8]) #[false, false, false, false, false, false, false, false, false] (by kernel_rfl) rfl rfl ⟨(blk_cell S4.out.v1 0).trans rfl, (blk_cell S4.out.v1 1).trans rfl, (blk_cell S4.out.v1 2).trans rfl⟩ (fun hHeld => ?_)
    generalize w1.drew = w4 at *
    refine pure_ (i := 0) (N := some 61) (v := ?_) (a' := ?_) #[true, false, false, false, false, false, false, false, false] rfl rfl (by kernel_rfl) (fun _ _ _ h => h) (Or.inl ⟨by rfl, ?_⟩) ?_ ?_
    rotate_left
    · intro w'
      go_simp
      with_reducible rfl
    rotate_left
    · simp only [Act.put, List.setIfInBounds_toArray, List.set_cons_zero, List.set_cons_succ, i64_w, i32_w]
      rfl
    refine take_ (i := 1) (N := some 62) (v := ?_) (a' := ?_) #[true, true, false, false, false, false, false, false, false] rfl rfl (by kernel_rfl) (fun _ _ _ h => h) (Or.inl ⟨by rfl, ?_⟩) hHeld ?_ ?_
    rotate_left
    · rintro w' ⟨s0, s1, s2⟩
      go_simp
      with_reducible rfl
    rotate_left
    · simp only [Act.put, List.setIfInBounds_toArray, List.set_cons_zero, List.set_cons_succ, i64_w, i32_w]
      rfl
    refine pure_ (i := 2) (N := some 63) (v := ?_) (a' := ?_) #[true, true, true, false, false, false, false, false, false] rfl rfl (by kernel_rfl) (fun _ _ _ h => h) (Or.inl ⟨by rfl, ?_⟩) ?_ ?_
    rotate_left
    · intro w'
      go_simp
      with_reducible rfl
    rotate_left
    · simp only [Act.put, List.setIfInBounds_toArray, List.set_cons_zero, List.set_cons_succ, i64_w, i32_w]
      rfl
    refine take_ (i := 3) (N := some 64) (v := ?_) (a' := ?_) #[true, true, true, true, false, false, false, false, false] rfl rfl (by kernel_rfl) (fun _ _ _ h => h) (Or.inl ⟨by rfl, ?_⟩) hHeld ?_ ?_
    rotate_left
    · rintro w' ⟨s0, s1, s2⟩
      go_simp
      with_reducible rfl
    rotate_left
    · simp only [Act.put, List.setIfInBounds_toArray, List.set_cons_zero, List.set_cons_succ, i64_w, i32_w]
      rfl
    refine pure_ (i := 5) (N := some 66) (v := ?_) (a' := ?_) #[true, true, true, true, false, true, false, false, false] rfl rfl (by kernel_rfl) (fun _ _ _ h => h) (Or.inl ⟨by rfl, ?_⟩) ?_ ?_
    rotate_left
    · intro w'
      go_simp
      with_reducible rfl
    rotate_left
    · simp only [Act.put, List.setIfInBounds_toArray, List.set_cons_zero, List.set_cons_succ, i64_w, i32_w]
      rfl
    refine take_ (i := 6) (N := some 67) (v := ?_) (a' := ?_) #[true, true, true, true, false, true, true, false, false] rfl rfl (by kernel_rfl) (fun _ _ _ h => h) (Or.inl ⟨by rfl, ?_⟩) hHeld ?_ ?_
    rotate_left
    · rintro w' ⟨s0, s1, s2⟩
      go_simp
      with_reducible rfl
    rotate_left
    · simp only [Act.put, List.setIfInBounds_toArray, List.set_cons_zero, List.set_cons_succ, i64_w, i32_w]
      rfl
    refine one_ (i := 4) (N := some 65) #[true, true, true, true, true, true, true, false, false] rfl rfl (by kernel_rfl) (by decide) (fun K hK => ?_)
    refine goes_ Try.func62 (by kernel_rfl) rfl #[.slice A0 d.s.length c0, .slice A1 d.p.length c1] (by rfl) rfl rfl (by (try simp only [List.map_toArray, List.map_cons, List.map_nil]); first | done | rfl) ?_
    refine (perform_says A0 A1 c0 c1 d.s d.p _ (fun k => k < w.heap.size) (Kd.F_below (Kd.C_F kSec_heap HC0.out) S4.out.b) (Kd.F_below (Kd.C_F k76_heap HC1.out) S4.out.b) (fun x hx => ⟨(HOK.out.2.2.2.2.2.1 x hx).1, (HOK.out.2.2.2.2.2.1 x hx).2.1⟩) (by have := HOK.out.1; omega)).mono ?_
    rintro e w5 ⟨⟨vs, he, hn⟩, hb⟩
    obtain ⟨As, cs, hvs⟩ := Kd.N_slice hn
    rw [performD_len] at hvs
    subst hvs
    subst he
    refine ⟨_, rfl, ?_⟩
    have S5 := Aside0.mk (S4.out.step hb)
    have N5 := Aside0.mk (Kd.N_mono hn (ok' := apartW w) (fun k hk => hk.elim (fun h => .inl h) (apartW.new S4.out.lt k)))
    clear hn hb
    refine hK.out _ _ ⟨(blk_cell S5.out.v1 0).trans rfl, (blk_cell S5.out.v1 1).trans rfl, (blk_cell S5.out.v1 2).trans rfl⟩ (fun hHeld => ?_)
    clear hK K
    refine norm_ (a' := ?_) ?_ ?_
    rotate_left
    · show Act.put _ (some 65) _ = _
      simp only [Act.put, List.setIfInBounds_toArray, List.set_cons_zero, List.set_cons_succ, i64_w, i32_w]
      rfl
    refine pure_ (i := 7) (N := some 68) (v := ?_) (a' := ?_) #[true, true, true, true, true, true, true, true, false] rfl rfl (by kernel_rfl) (fun _ _ _ h => h) (Or.inl ⟨by rfl, ?_⟩) ?_ ?_
    rotate_left
    · intro w'
      go_simp
      with_reducible rfl
    rotate_left
    · simp only [Act.put, List.setIfInBounds_toArray, List.set_cons_zero, List.set_cons_succ, i64_w, i32_w]
      rfl
    refine last_ (i := 8) (N := none) #[true, true, true, true, true, true, true, true, true] rfl rfl (by kernel_rfl) (by decide) (fun K hK => ?_)
    have v1z0 := (blk_cell S5.out.v1 0).trans rfl; have v1f0 := blk_frozen S5.out.v1 0; have v2z0 := (blk_cell S5.out.v2 0).trans rfl; have v2f0 := blk_frozen S5.out.v2 0; have v1z1 := (blk_cell S5.out.v1 1).trans rfl; have v1f1 := blk_frozen S5.out.v1 1; have v2z1 := (blk_cell S5.out.v2 1).trans rfl; have v2f1 := blk_frozen S5.out.v2 1; have v1z2 := (blk_cell S5.out.v1 2).trans rfl; have v1f2 := blk_frozen S5.out.v1 2; have v2z2 := (blk_cell S5.out.v2 2).trans rfl; have v2f2 := blk_frozen S5.out.v2 2; have v1z3 := (blk_cell S5.out.v1 3).trans rfl; have v1f3 := blk_frozen S5.out.v1 3; have v2z3 := (blk_cell S5.out.v2 3).trans rfl; have v2f3 := blk_frozen S5.out.v2 3
    refine skip_ (w1 := ?_) (by rfl) rfl ?_ ?_
    rotate_left
    · go_simp
      rfl
    refine hK.out _ _ ?_
    clear hK K
    refine done_ (by kernel_rfl) ?_
    have S6 := Aside0.mk (show WS w ((((w5.setCell ⟨w.heap.size + 1, 0, none⟩ (.slice As d.s.length cs)).setCell ⟨w.heap.size + 1, 1, none⟩ (.slice none 0 0)).setCell ⟨w.heap.size + 1, 2, none⟩ (.int .i64 d.left)).setCell ⟨w.heap.size + 1, 3, none⟩ (.bool false)) #[.slice A0 d.s.length c0, .slice A1 d.p.length c1, .int .i64 d.left, .bool d.st] #[.slice As d.s.length cs, .slice none 0 0, .int .i64 d.left, .bool false] from ((((S5.out.set2 0 (.slice As d.s.length cs)).set2 1 (.slice none 0 0)).set2 2 (.int .i64 d.left)).set2 3 (.bool false)))
    have N6 := Aside0.mk (Kd.N_far (p := ⟨w.heap.size + 1, 3, none⟩) (Kd.N_far (p := ⟨w.heap.size + 1, 2, none⟩) (Kd.N_far (p := ⟨w.heap.size + 1, 1, none⟩) (Kd.N_far (p := ⟨w.heap.size + 1, 0, none⟩) N5.out apartW.ne2 (.slice As d.s.length cs)) apartW.ne2 (.slice none 0 0)) apartW.ne2 (.int .i64 d.left)) apartW.ne2 (.bool false))
    clear v1z0 v1f0 v2z0 v2f0 v1z1 v1f1 v2z1 v2f1 v1z2 v1f2 v2z2 v2f2 v1z3 v1f3 v2z3 v2f3
    clear S5 N5
    generalize ((((w5.setCell ⟨w.heap.size + 1, 0, none⟩ (.slice As d.s.length cs)).setCell ⟨w.heap.size + 1, 1, none⟩ (.slice none 0 0)).setCell ⟨w.heap.size + 1, 2, none⟩ (.int .i64 d.left)).setCell ⟨w.heap.size + 1, 3, none⟩ (.bool false)) = w6 at *
    have v1z0 := (blk_cell S6.out.v1 0).trans rfl; have v1f0 := blk_frozen S6.out.v1 0; have v2z0 := (blk_cell S6.out.v2 0).trans rfl; have v2f0 := blk_frozen S6.out.v2 0; have v1z1 := (blk_cell S6.out.v1 1).trans rfl; have v1f1 := blk_frozen S6.out.v1 1; have v2z1 := (blk_cell S6.out.v2 1).trans rfl; have v2f1 := blk_frozen S6.out.v2 1; have v1z2 := (blk_cell S6.out.v1 2).trans rfl; have v1f2 := blk_frozen S6.out.v1 2; have v2z2 := (blk_cell S6.out.v2 2).trans rfl; have v2f2 := blk_frozen S6.out.v2 2; have v1z3 := (blk_cell S6.out.v1 3).trans rfl; have v1f3 := blk_frozen S6.out.v1 3; have v2z3 := (blk_cell S6.out.v2 3).trans rfl; have v2f3 := blk_frozen S6.out.v2 3
    have hleft := of_decide_eq_true HQ.out
    have hw := w64sub d.left d.p.length HOK.out.2.2.1 HOK.out.2.2.2.1 HOK.out.2.1
    clear hleft
    go_wp2
    have S7 := S6.out.set2 2 (.int .i64 (d.left - (d.p.length : Int)))
    have N7 := Kd.N_far (p := ⟨w.heap.size + 1, 2, none⟩) N6.out apartW.ne2 (.int .i64 (d.left - (d.p.length : Int)))
    have E := ((((S7.set2 0 (.slice As d.s.length cs)).set2 1 (.slice none 0 0)).set2 2 (.int .i64 (d.left - (d.p.length : Int)))).set2 3 (.bool false))
    have N8 := (Kd.N_far (p := ⟨w.heap.size + 1, 3, none⟩) (Kd.N_far (p := ⟨w.heap.size + 1, 2, none⟩) (Kd.N_far (p := ⟨w.heap.size + 1, 1, none⟩) (Kd.N_far (p := ⟨w.heap.size + 1, 0, none⟩) N7 apartW.ne2 (.slice As d.s.length cs)) apartW.ne2 (.slice none 0 0)) apartW.ne2 (.int .i64 (d.left - (d.p.length : Int)))) apartW.ne2 (.bool false))
    refine bodyPost_ret (results_ct rfl _ _ (w.heap.size + 1) 25 #[.slice As d.s.length cs, .slice none 0 0, .int .i64 (d.left - (d.p.length : Int)), .bool false] (0, 0) _ rfl E.v2 hu25 rfl info25') rfl ?_
    refine ⟨⟨_, by rw [HE.out]; rfl, ?_⟩, E.b⟩
    rw [HE.out]
    have hlen := performD_len d.s d.p
    have hif : (if 0 ≤ d.left then d.left - d.p.length else d.left) = d.left - d.p.length := if_pos (of_decide_eq_true HQ.out)
    rw [hif]
    exact ⟨As, cs, none, 0, by rw [hlen]; rfl, by rw [hlen]; have h_ := Kd.N_reads' N8; rw [hlen] at h_; exact h_.2.1, Nat.le_refl _, (by have h_ := (Kd.N_reads' N8).2.2; exact h_), Kd.C_nil _ _⟩
end Go.Proofs.Ytlnmjgkeiljniaa.Q
/- disk.Sync: a write that is torn. -/
namespace Go.Proofs.Ytlnmjgkeiljniaa.Q
open Go.RowKit Go.Proofs.YtlnmjgkeiljniaaW.PrintWords Go.Proofs.YtlnmjgkeiljniaaW.PrintLast Go.Proofs.YtlnmjgkeiljniaaW.PrintMore
set_option linter.unusedVariables false
set_option linter.unusedSimpArgs false
/-- a row of bytes of one's own: its block -/
theorem own_bytes {W : World} {base : Nat} {ok : Nat → Prop} {v : Value} {l : List Int} (h : Kd.N (Kd.int .u8) 5 W base ok v l) (hp : 0 < l.length) : ∃ g cap rest, v = .slice (some ⟨g, 0, none⟩) l.length cap ∧ l.length ≤ cap ∧ base ≤ g ∧ W.heap[g]? = some (.cells (nums .u8 l ++ rest).toArray 5 (0, 0)) := by
  obtain ⟨hown, rows, hl, ⟨-, inner, ho, hr⟩, hf⟩ := h
  obtain ⟨g, cap, hv, hg, hgl⟩ := ho.form (by omega)
  obtain ⟨h1, h2⟩ := ho
  rcases h2 with ⟨rfl, h0⟩ | ⟨g2, cap2, cur, hv2, hb2, hh2, hnc, hcm, hcs, htake⟩
  · cases hv
  · rw [hv2] at hv
    injection hv with hv3 _ hv4
    injection hv3 with hv5
    injection hv5 with hv6
    subst hv6
    refine ⟨g2, cap2, cur.toList.drop (rows.length * (Kd.raw (Kd.int .u8).sz).sz), by rw [hv2, hl], by omega, hb2, ?_⟩
    have hin : inner = nums .u8 l := by
      apply List.ext_getElem?
      intro j
      have hil : inner.length = l.length := by rw [h1, hl]; exact Nat.mul_one _
      by_cases hj : j < l.length
      · have hjr : j < rows.length := by omega
        have h3 := hr.2 j _ (List.getElem?_eq_getElem hjr)
        have h4 := Kd.FK_now (hf j _ _ (List.getElem?_eq_getElem hj) (List.getElem?_eq_getElem hjr))
        have h5 : rows[j] = [.int .u8 l[j]] := h4
        rw [h5] at h3
        have h6 : List.take 1 (List.drop (j * 1) inner) = [.int .u8 l[j]] := h3.1
        rw [Nat.mul_one] at h6
        have h7 : inner[j]? = some (.int .u8 l[j]) := by
          have h8 := congrArg (fun z => z[0]?) h6
          simp only [List.getElem?_take, List.getElem?_drop] at h8
          simpa using h8
        rw [h7]
        simp [nums, hj]
      · rw [List.getElem?_eq_none (by omega), List.getElem?_eq_none (by rw [nums_length]; omega)]
    rw [← hin, ← htake, List.take_append_drop]
    exact hh2
theorem tear_splice (l x : List Int) (rest : List Value) (hl : l.length = 128) (hx : x.length = 128) : splice (nums .u8 l ++ rest) 0 (nums .u8 (x.take 64)) = nums .u8 (tear l x) ++ rest := by
  unfold splice tear
  have h1 : (nums .u8 (x.take 64)).length = 64 := by rw [nums_length, List.length_take]; omega
  rw [List.take_zero, List.nil_append, Nat.zero_add, nums_append, h1, List.drop_append_of_le_length (by rw [nums_length]; omega), List.append_assoc]
  congr 2
  simp [nums, List.map_drop]
theorem tear_len (l x : List Int) (hl : l.length = 128) (hx : x.length = 128) : (tear l x).length = 128 := by unfold tear; rw [List.length_append, List.length_take, List.length_drop]; omega
theorem bytesR_F {W : World} {gb : Nat} {l : List Int} {rest : List Value} {ok : Nat → Prop} (h : W.heap[gb]? = some (.cells (nums .u8 l ++ rest).toArray 5 (0, 0))) (hok : ok gb) (hm : l.length ≤ 9223372036854775807) : Kd.F (Kd.int .u8) W ok (some ⟨gb, 0, none⟩) l.length l :=
  fun W' hW => bytes_C ((hW gb hok (blk_lt h)).trans h) hm
theorem fk_sec_open {W : World} {ok : Nat → Prop} {l : List Int} {cq : List Value} (h : Kd.FK (Kd.slice 5 (Kd.int .u8)) W ok l cq) : ∃ A c, cq = [.slice A l.length c] ∧ l.length ≤ c ∧ Kd.F (Kd.int .u8) W ok A l.length l := by
  obtain ⟨A, c, rfl, hl, _⟩ := Kd.FK_now h
  refine ⟨A, c, rfl, hl, fun W' hW => ?_⟩
  obtain ⟨A2, c2, he, _, hC⟩ := h W' hW
  injection he with he _
  injection he with hA _ _
  rw [hA]
  exact hC
theorem performD_all (s : List (List Int)) (p : List S76) (hs : ∀ b ∈ s, b.length = 128) (hp : ∀ x ∈ p, x.f1.length = 128) : ∀ b ∈ performD s p, b.length = 128 := by
  unfold performD
  induction p generalizing s with
  | nil => exact hs
  | cons x p ih =>
    rw [List.foldl_cons]
    refine ih _ (fun b hb => ?_) (fun y hy => hp y (List.mem_cons_of_mem _ hy))
    rcases List.mem_or_eq_of_mem_set hb with hb | rfl
    · exact hs b hb
    · exact hp x List.mem_cons_self
set_option maxHeartbeats 8000000 in
set_option maxRecDepth 100000 in
theorem sync_tear (v : Value) (s : List (List Int)) (p : List S76) (ln : Nat) (st : Bool) (w : World) (h : DiskV w v (⟨s, p, (ln : Int), st⟩ : Dk)) (hr : runsD (⟨s, p, (ln : Int), st⟩ : Dk) = true) (hl : ln < p.length) : Calls Try.prog 30 #[v] w (DEnds w (syncD (⟨s, p, (ln : Int), st⟩ : Dk))) := by
  have hd := h
  obtain ⟨A0, c0, A1, c1, rfl, h0, h1, hC0, hC1⟩ := h
  dsimp only at h0 h1 hC0 hC1 ⊢
  have hok := runs_ok hr
  dsimp only at hok
  have S2 := Aside0.mk (WS.new w #[.slice A0 s.length c0, .slice A1 p.length c1, .int .i64 (ln : Int), .bool st] #[.slice none 0 0, .slice none 0 0, .int .i64 0, .bool false])
  have D2 := Aside0.mk (hd.below S2.out.b)
  have HC0 := Aside0.mk hC0
  have HC1 := Aside0.mk hC1
  have HL := Aside0.mk (And.intro h0 h1)
  have hu25 := Try.underlying25
  have HOK := Aside0.mk hok
  have HR := Aside0.mk hr
  obtain ⟨x, hx⟩ : ∃ x, p.getD ln z76 = x := ⟨_, rfl⟩
  have hxm : x ∈ p := by rw [← hx, List.getD_eq_getElem?_getD, List.getElem?_eq_getElem hl]; exact List.getElem_mem hl
  have HXV := Aside0.mk (hok.2.2.2.2.2.1 x hxm)
  have hxs : x.f0.toNat < s.length := by have := hok.2.2.2.2.2.1 x hxm; omega
  obtain ⟨sec, hsec⟩ : ∃ sec, (performD s (p.take ln)).getD x.f0.toNat [] = sec := ⟨_, rfl⟩
  have HSEC := Aside0.mk hsec
  have HX := Aside0.mk hx
  have HE := Aside0.mk (show syncD (⟨s, p, (ln : Int), st⟩ : Dk) = (⟨(performD s (p.take ln)).set x.f0.toNat (tear sec x.f1), [], 0, true⟩, 450) from by
    unfold syncD
    rw [if_pos hr, if_pos ⟨by simp only; omega, by simp only; omega⟩]
    simp only [show ((ln : Int)).toNat = ln by omega, hx, hsec])
  have hsl : ∀ W : World, (Instr.slice 23 (.slice A1 p.length c1) none (some (.int .i64 (ln : Int))) (some (.int .i64 (ln : Int)))).run Try.prog W = .ok (.slice A1 ln ln) W := fun W => by
    have q1 : (0 : Int) ≤ (ln : Int) := by omega
    have q2 : (ln : Int) ≤ (c1 : Int) := by omega
    have q3 : (ln : Int) ≤ (ln : Int) := by omega
    have hu23 := Try.underlying23
    go_simp
  have q0 : decide ((0 : Int) ≤ (ln : Int)) = true := decide_eq_true (by omega)
  have q1 : decide (ln < p.length) = true := decide_eq_true hl
  have HLT := Aside0.mk hl
  clear hd h0 h1 hC0 hC1 hok hr hx hxm hxs hsec hl
  go_enter Try.func30, Try.ntmps30
  go_upto_region 6 with (go_at_call 57; (refine (runs_says _ (⟨s, p, (ln : Int), st⟩ : Dk) _ D2.out).mono ?_); rintro e w1 ⟨he, hb⟩; rw [HR.out] at he; obtain rfl := he; have S3 := Aside0.mk (S2.out.step hb); have D3 := Aside0.mk (D2.out.below hb); clear hb; have v1z0 := (blk_cell S3.out.v1 0).trans rfl; have v1f0 := blk_frozen S3.out.v1 0; have v2z0 := (blk_cell S3.out.v2 0).trans rfl; have v2f0 := blk_frozen S3.out.v2 0; have v1z1 := (blk_cell S3.out.v1 1).trans rfl; have v1f1 := blk_frozen S3.out.v1 1; have v2z1 := (blk_cell S3.out.v2 1).trans rfl; have v2f1 := blk_frozen S3.out.v2 1; have v1z2 := (blk_cell S3.out.v1 2).trans rfl; have v1f2 := blk_frozen S3.out.v1 2; have v2z2 := (blk_cell S3.out.v2 2).trans rfl; have v2f2 := blk_frozen S3.out.v2 2; have v1z3 := (blk_cell S3.out.v1 3).trans rfl; have v1f3 := blk_frozen S3.out.v1 3; have v2z3 := (blk_cell S3.out.v2 3).trans rfl; have v2f3 := blk_frozen S3.out.v2 3)
  clear S2 D2 D3
  have htl : (p.take ln).length = ln := by rw [List.length_take]; have := HLT.out; omega
  have C := perform_says A0 A1 c0 ln s (p.take ln) w1 (fun k => k < w.heap.size) (Kd.F_below (Kd.C_F kSec_heap HC0.out) S3.out.b) (Kd.F_imp (Kd.F_below (Kd.C_F k76_heap HC1.out) S3.out.b) (fun W' h_ => Kd.C_take h_ (Nat.le_of_lt HLT.out))) (fun y hy => ⟨(HOK.out.2.2.2.2.2.1 y (List.mem_of_mem_take hy)).1, (HOK.out.2.2.2.2.2.1 y (List.mem_of_mem_take hy)).2.1⟩) (by have := HOK.out.1; omega)
  rw [htl] at C
  replace C := Aside0.mk C
  clear htl
  go_upto_region 7 with (go_at_call 62; (refine C.out.mono ?_); rintro e w2 ⟨⟨vs, he, hn⟩, hb⟩; obtain ⟨As, cs, hvs⟩ := Kd.N_slice hn; rw [performD_len] at hvs; subst hvs; subst he; have S4 := Aside0.mk (S3.out.step hb); have N4 := Aside0.mk (Kd.N_mono hn (ok' := apartW w) (fun k hk => hk.elim (fun h => .inl h) (apartW.new S3.out.lt k))); clear v1z0 v1f0 v2z0 v2f0 v1z1 v1f1 v2z1 v2f1 v1z2 v1f2 v2z2 v2f2 v1z3 v1f3 v2z3 v2f3; have v1z0 := (blk_cell S4.out.v1 0).trans rfl; have v1f0 := blk_frozen S4.out.v1 0; have v2z0 := (blk_cell S4.out.v2 0).trans rfl; have v2f0 := blk_frozen S4.out.v2 0; have v1z1 := (blk_cell S4.out.v1 1).trans rfl; have v1f1 := blk_frozen S4.out.v1 1; have v2z1 := (blk_cell S4.out.v2 1).trans rfl; have v2f1 := blk_frozen S4.out.v2 1; have v1z2 := (blk_cell S4.out.v1 2).trans rfl; have v1f2 := blk_frozen S4.out.v1 2; have v2z2 := (blk_cell S4.out.v2 2).trans rfl; have v2f2 := blk_frozen S4.out.v2 2; have v1z3 := (blk_cell S4.out.v1 3).trans rfl; have v1f3 := blk_frozen S4.out.v1 3; have v2z3 := (blk_cell S4.out.v2 3).trans rfl; have v2f3 := blk_frozen S4.out.v2 3; clear hn hb)
  have S5 := Aside0.mk (show WS w ((((w2.setCell ⟨w.heap.size + 1, 0, none⟩ (.slice As s.length cs)).setCell ⟨w.heap.size + 1, 1, none⟩ (.slice none 0 0)).setCell ⟨w.heap.size + 1, 2, none⟩ (.int .i64 0)).setCell ⟨w.heap.size + 1, 3, none⟩ (.bool true)) #[.slice A0 s.length c0, .slice A1 p.length c1, .int .i64 (ln : Int), .bool st] #[.slice As s.length cs, .slice none 0 0, .int .i64 0, .bool true] from ((((S4.out.set2 0 (.slice As s.length cs)).set2 1 (.slice none 0 0)).set2 2 (.int .i64 0)).set2 3 (.bool true)))
  have N5 := Aside0.mk (Kd.N_lower (base' := w.heap.size) (Kd.N_far (p := ⟨w.heap.size + 1, 3, none⟩) (Kd.N_far (p := ⟨w.heap.size + 1, 2, none⟩) (Kd.N_far (p := ⟨w.heap.size + 1, 1, none⟩) (Kd.N_far (p := ⟨w.heap.size + 1, 0, none⟩) N4.out apartW.ne2 (.slice As s.length cs)) apartW.ne2 (.slice none 0 0)) apartW.ne2 (.int .i64 0)) apartW.ne2 (.bool true)) S3.out.b.size)
  clear v1z0 v1f0 v2z0 v2f0 v1z1 v1f1 v2z1 v2f1 v1z2 v1f2 v2z2 v2f2 v1z3 v1f3 v2z3 v2f3
  clear S4 N4 S3
  generalize ((((w2.setCell ⟨w.heap.size + 1, 0, none⟩ (.slice As s.length cs)).setCell ⟨w.heap.size + 1, 1, none⟩ (.slice none 0 0)).setCell ⟨w.heap.size + 1, 2, none⟩ (.int .i64 0)).setCell ⟨w.heap.size + 1, 3, none⟩ (.bool true)) = w3 at *
  have v1z0 := (blk_cell S5.out.v1 0).trans rfl; have v1f0 := blk_frozen S5.out.v1 0; have v2z0 := (blk_cell S5.out.v2 0).trans rfl; have v2f0 := blk_frozen S5.out.v2 0; have v1z1 := (blk_cell S5.out.v1 1).trans rfl; have v1f1 := blk_frozen S5.out.v1 1; have v2z1 := (blk_cell S5.out.v2 1).trans rfl; have v2f1 := blk_frozen S5.out.v2 1; have v1z2 := (blk_cell S5.out.v1 2).trans rfl; have v1f2 := blk_frozen S5.out.v1 2; have v2z2 := (blk_cell S5.out.v2 2).trans rfl; have v2f2 := blk_frozen S5.out.v2 2; have v1z3 := (blk_cell S5.out.v1 3).trans rfl; have v1f3 := blk_frozen S5.out.v1 3; have v2z3 := (blk_cell S5.out.v2 3).trans rfl; have v2f3 := blk_frozen S5.out.v2 3
  obtain ⟨ad, cx, rfl, hcl, hfk, hcc, -⟩ := Kd.F_get (Kd.F_below (Kd.C_F k76_heap HC1.out) S5.out.b) z76 (ln : Int) (by omega) (by have := HLT.out; omega)
  rw [show ((ln : Int)).toNat = ln by omega, HX.out] at hfk
  obtain ⟨Ax, ccx, rfl, hlx, hFx⟩ := k76_openF hfk
  have hx0 : w3.cell? (ad.add (ln * 2)) = some (.int .i64 x.f0) := by have h_ := hcc 0 _ rfl; rw [show ((ln : Int)).toNat = ln by omega] at h_; exact h_
  have hx1 : w3.cell? ⟨(ad.add (ln * 2)).block, (ad.add (ln * 2)).off + 1, none⟩ = some (.slice Ax x.f1.length ccx) := by
    have h_ := hcc 1 _ rfl
    rw [show ((ln : Int)).toNat = ln by omega] at h_
    rw [← add_field _ _ 1 (by omega)]
    exact h_
  have HFX := Aside0.mk hFx
  have HLX := Aside0.mk hlx
  have hlt := HLT.out
  clear hcl hcc hfk hlx hFx
  go_upto_region 8 with (fail)
  have S6 := Aside0.mk (S5.out.alloc (.cells #[.int .i64 x.f0, .slice Ax x.f1.length ccx] 76))
  have N6 := Aside0.mk (Kd.N_bound (Kd.N_alloc N5.out (.cells #[.int .i64 x.f0, .slice Ax x.f1.length ccx] 76)))
  have BB := Aside0.mk (blk_new w3 (.cells #[.int .i64 x.f0, .slice Ax x.f1.length ccx] 76))
  have HF6 := Aside0.mk (Kd.F_alloc HFX.out (.cells #[.int .i64 x.f0, .slice Ax x.f1.length ccx] 76))
  clear v1z0 v1f0 v2z0 v2f0 v1z1 v1f1 v2z1 v2f1 v1z2 v1f2 v2z2 v2f2 v1z3 v1f3 v2z3 v2f3
  clear S5 N5 hx0 hx1 HFX hlt
  generalize hw4 : w3.alloc (.cells #[.int .i64 x.f0, .slice Ax x.f1.length ccx] 76) = w4 at *
  generalize w3.heap.size = h4 at *
  clear hw4
  have v1z0 := (blk_cell S6.out.v1 0).trans rfl; have v1f0 := blk_frozen S6.out.v1 0; have v2z0 := (blk_cell S6.out.v2 0).trans rfl; have v2f0 := blk_frozen S6.out.v2 0; have v1z1 := (blk_cell S6.out.v1 1).trans rfl; have v1f1 := blk_frozen S6.out.v1 1; have v2z1 := (blk_cell S6.out.v2 1).trans rfl; have v2f1 := blk_frozen S6.out.v2 1; have v1z2 := (blk_cell S6.out.v1 2).trans rfl; have v1f2 := blk_frozen S6.out.v1 2; have v2z2 := (blk_cell S6.out.v2 2).trans rfl; have v2f2 := blk_frozen S6.out.v2 2; have v1z3 := (blk_cell S6.out.v1 3).trans rfl; have v1f3 := blk_frozen S6.out.v1 3; have v2z3 := (blk_cell S6.out.v2 3).trans rfl; have v2f3 := blk_frozen S6.out.v2 3
  have bz0 := (blk_cell BB.out 0).trans rfl
  have bz1 := (blk_cell BB.out 1).trans rfl
  have hlen := performD_len s (p.take ln)
  obtain ⟨g, cap, he, hge, hgl, -⟩ := Kd.N_form N6.out (by rw [hlen]; have := HOK.out.2.2.2.2.1; omega)
  injection he with hea hel hec
  subst hea
  subst hec
  obtain ⟨cq, hcl, hfk, hcc, hfr⟩ := Kd.N_elem N6.out ([] : List Int) x.f0 HXV.out.1 HXV.out.2.1
  rw [HSEC.out] at hfk
  obtain ⟨Aq, cqq, rfl, hlq, hFq⟩ := fk_sec_open hfk
  have hq0 : w4.cell? ⟨g, x.f0.toNat, none⟩ = some (.slice Aq sec.length cqq) := by have h_ := hcc 0 _ rfl; rw [show x.f0.toNat * (Kd.slice 5 (Kd.int .u8)).sz + 0 = x.f0.toNat from Nat.mul_one _] at h_; exact h_
  have HFQ := Aside0.mk hFq
  have hi0 := HXV.out.1
  have hi1 : x.f0 < (s.length : Int) := HXV.out.2.1
  have HGL := Aside0.mk hgl
  have HSL := Aside0.mk (show sec.length = 128 from by
    have hm : x.f0.toNat < (performD s (p.take ln)).length := by rw [hlen]; have := HXV.out; omega
    have h_ := HSEC.out
    rw [List.getD_eq_getElem?_getD, List.getElem?_eq_getElem hm] at h_
    rw [← h_]
    exact performD_all s (p.take ln) HOK.out.2.2.2.2.2.2 (fun y hy => (HOK.out.2.2.2.2.2.1 y (List.mem_of_mem_take hy)).2.2) _ (List.getElem_mem hm))
  clear hlen hel hcl hfk hcc hfr hlq hFq hge hgl
  have HB4 := Aside0.mk (blk_lt BB.out)
  go_upto_region 9 with (go_at_call 63; (refine (clone5_says Aq cqq sec _ _ HFQ.out (by have := HSL.out; omega)).mono ?_); rintro e w5 ⟨⟨vt, he, hn⟩, hb⟩; obtain ⟨gt, capt, rest, hvt, hct, hgt, hbt⟩ := own_bytes hn (by have := HSL.out; omega); subst hvt; subst he; have HGT := Aside0.mk (show w.heap.size + 1 < gt ∧ w4.heap.size ≤ gt ∧ h4 < gt from ⟨Nat.lt_of_lt_of_le S6.out.lt hgt, hgt, Nat.lt_of_lt_of_le HB4.out hgt⟩); have HCT := Aside0.mk hct; have BT5 := Aside0.mk hbt; have S5 := Aside0.mk (S6.out.step hb); have N5 := Aside0.mk (Kd.N_below N6.out hb); have BB5 := Aside0.mk (blk_below BB.out hb); have HFX5 := Aside0.mk (Kd.F_below HF6.out hb); clear v1z0 v1f0 v2z0 v2f0 v1z1 v1f1 v2z1 v2f1 v1z2 v1f2 v2z2 v2f2 v1z3 v1f3 v2z3 v2f3; clear hq0 bz0 bz1 hi0 hi1 hb hn hct hgt hbt)
  have S6a := Aside0.mk S5.out.drew
  have N6a := Aside0.mk (Kd.N_drew N5.out)
  have BB6 := Aside0.mk (blk_drew BB5.out)
  have BT6 := Aside0.mk (blk_drew BT5.out)
  have HFX6 := Aside0.mk (Kd.F_drew HFX5.out)
  clear S6 N6 S5 N5 BB BB5 BT5 HF6 HFX5 HFQ
  have S6 := S6a
  have N6 := N6a
  clear S6a N6a
  have BX6 := Aside0.mk ((blk_cell BB6.out 1).trans rfl)
  have hc64 : (64 : Int) ≤ (capt : Int) := by have := HSL.out; have := HCT.out; omega
  refine start_ (n := 5) (S := fun w' => w'.cell? ⟨h4, 1, none⟩ = some (.slice Ax x.f1.length ccx)) (ds := []) #[false, false, false, false, false] (by kernel_rfl) rfl rfl (BX6.out) (fun hHeld => ?_)
  generalize w5.drew = w6 at *
  refine pure_ (i := 0) (N := some 49) (v := ?_) (a' := ?_) #[true, false, false, false, false] rfl rfl (by kernel_rfl) (fun _ _ _ h => h) (Or.inl ⟨by rfl, ?_⟩) ?_ ?_
  rotate_left
  · intro w'
    go_simp
    with_reducible rfl
  rotate_left
  · simp only [Act.put, List.setIfInBounds_toArray, List.set_cons_zero, List.set_cons_succ, i64_w, i32_w]
    rfl
  refine pure_ (i := 1) (N := some 50) (v := ?_) (a' := ?_) #[true, true, false, false, false] rfl rfl (by kernel_rfl) (fun _ _ _ h => h) (Or.inl ⟨by rfl, ?_⟩) ?_ ?_
  rotate_left
  · intro w'
    go_simp
    with_reducible rfl
  rotate_left
  · simp only [Act.put, List.setIfInBounds_toArray, List.set_cons_zero, List.set_cons_succ, i64_w, i32_w]
    rfl
  refine pure_ (i := 2) (N := some 51) (v := ?_) (a' := ?_) #[true, true, true, false, false] rfl rfl (by kernel_rfl) (fun _ _ _ h => h) (Or.inl ⟨by rfl, ?_⟩) ?_ ?_
  rotate_left
  · intro w'
    go_simp
    with_reducible rfl
  rotate_left
  · simp only [Act.put, List.setIfInBounds_toArray, List.set_cons_zero, List.set_cons_succ, i64_w, i32_w]
    rfl
  refine take_ (i := 3) (N := some 52) (v := ?_) (a' := ?_) #[true, true, true, true, false] rfl rfl (by kernel_rfl) (fun _ _ _ h => h) (Or.inl ⟨by rfl, ?_⟩) hHeld ?_ ?_
  rotate_left
  · rintro w' s0
    go_simp
    with_reducible rfl
  rotate_left
  · simp only [Act.put, List.setIfInBounds_toArray, List.set_cons_zero, List.set_cons_succ, i64_w, i32_w]
    rfl
  refine one_ (i := 4) (N := some 53) #[true, true, true, true, true] rfl rfl (by kernel_rfl) (by decide) (fun K hK => ?_)
  refine step_copy_splice rfl (.tmp 50) (.tmp 52) 35 35 rfl 5 Try.underlying35 info5s (some ⟨gt, 0, none⟩) Ax 64 capt x.f1.length ccx rfl rfl gt 0 (nums .u8 sec ++ rest) 5 BT6.out (nums .u8 (x.f1.take 64)) ?cn ?cp ?cf ?c1 gt w6 (Below.refl _ _) (Nat.le_refl _) ?_
  case cn => rw [nums_length, List.length_take, HXV.out.2.2]; rfl
  case cp => intro hp; obtain ⟨ad2, ha, hcc2⟩ := int_cells (Kd.F_now HFX6.out) (by rw [nums_length, HXV.out.2.2]; decide); exact ⟨rfl, ad2, ha, fun j v hj => hcc2 j v (by rw [nums, List.map_take, List.getElem?_take] at hj; split at hj; exact hj; cases hj)⟩
  case cf => rw [nums_length, List.length_take, List.length_append, nums_length, HXV.out.2.2, HSL.out]; omega
  case c1 => exact nums_one _
  intro w7 hg7 hb7
  have BT7 := Aside0.mk (show w7.heap[gt]? = some (.cells (nums .u8 (tear sec x.f1) ++ rest).toArray 5 (0, 0)) from by rw [← tear_splice sec x.f1 rest HSL.out HXV.out.2.2]; exact hg7.out)
  have S7 := Aside0.mk (S6.out.stepB hb7 HGT.out.1)
  have N7 := Aside0.mk (Kd.N_step N6.out (fun k hk _ => hb7.block k (Nat.lt_of_lt_of_le hk.2 HGT.out.2.1)))
  have BX7 := Aside0.mk (show w7.heap[h4]? = some (.cells #[.int .i64 x.f0, .slice Ax x.f1.length ccx] 76 (0, 0)) from (hb7.block h4 HGT.out.2.2).trans BB6.out)
  clear hg7 hb7
  refine hK.out _ _ (((blk_cell BX7.out 1).trans rfl)) (fun hHeld => ?_)
  clear hK K
  refine norm_ (a' := ?_) ?_ ?_
  rotate_left
  · show Act.put _ (some 53) _ = _
    simp only [Act.put, List.setIfInBounds_toArray, List.set_cons_zero, List.set_cons_succ, i64_w, i32_w]
    rfl
  refine done_ (by kernel_rfl) ?_
  have hglt : g < gt := Nat.lt_of_lt_of_le HGL.out HGT.out.2.1
  have HGG := Aside0.mk hglt
  have N8 := Aside0.mk (Kd.N_mono N7.out (ok' := apartW w) (fun k hk => hk.1))
  have HGA := Aside0.mk (show apartW w g from N8.out.1 g (by simp [Value.ownBlock]))
  clear N6 N7 S6 BB6 BT6 HFX6 BX6 hglt
  have v1z0 := (blk_cell S7.out.v1 0).trans rfl; have v1f0 := blk_frozen S7.out.v1 0; have v2z0 := (blk_cell S7.out.v2 0).trans rfl; have v2f0 := blk_frozen S7.out.v2 0; have v1z1 := (blk_cell S7.out.v1 1).trans rfl; have v1f1 := blk_frozen S7.out.v1 1; have v2z1 := (blk_cell S7.out.v2 1).trans rfl; have v2f1 := blk_frozen S7.out.v2 1; have v1z2 := (blk_cell S7.out.v1 2).trans rfl; have v1f2 := blk_frozen S7.out.v1 2; have v2z2 := (blk_cell S7.out.v2 2).trans rfl; have v2f2 := blk_frozen S7.out.v2 2; have v1z3 := (blk_cell S7.out.v1 3).trans rfl; have v1f3 := blk_frozen S7.out.v1 3; have v2z3 := (blk_cell S7.out.v2 3).trans rfl; have v2f3 := blk_frozen S7.out.v2 3
  have bz0 := (blk_cell BX7.out 0).trans rfl
  obtain ⟨cq, hcl, -, hcc, hfr⟩ := Kd.N_elem N8.out ([] : List Int) x.f0 HXV.out.1 HXV.out.2.1
  obtain ⟨q, rfl⟩ : ∃ q, cq = [q] := List.length_eq_one_iff.1 hcl
  have hq0 : w7.cell? ⟨g, x.f0.toNat, none⟩ = some q := by have h_ := hcc 0 q rfl; rw [show x.f0.toNat * (Kd.slice 5 (Kd.int .u8)).sz + 0 = x.f0.toNat from Nat.mul_one _] at h_; exact h_
  have HCC := Aside0.mk hcc
  have HTL := tear_len sec x.f1 HSL.out HXV.out.2.2
  have HFT := Aside0.mk (show Kd.FK (Kd.slice 5 (Kd.int .u8)) w7 (fun k => apartW w k ∧ k ≠ g) (tear sec x.f1) [.slice (some ⟨gt, 0, none⟩) sec.length capt] from by
    have h_ := fk_sec (ok := fun k => apartW w k ∧ k ≠ g) (l := tear sec x.f1) (A := some ⟨gt, 0, none⟩) (c := capt) (by rw [HTL, ← HSL.out]; exact HCT.out) (bytesR_F BT7.out ⟨.inr HGT.out.1, by have := HGG.out; omega⟩ (by rw [HTL]; decide))
    rwa [HTL, ← HSL.out] at h_)
  have hi0 := HXV.out.1
  have hi1 : x.f0 < (s.length : Int) := HXV.out.2.1
  clear hcl hcc hfr HTL
  go_wp2_with ((with_reducible refine gate_store (t := 35) (p := 59) (v := .tmp 58) rfl ?_); refine Kd.N_store (Kd.slice 5 (Kd.int .u8)) (w0 := w) w.heap.size rfl rfl 35 (.tmp 59) (.tmp 58) rfl 35 x.f0 0 (performD s (p.take ln)) (tear sec x.f1) (.slice (some ⟨gt, 0, none⟩) sec.length capt) [.slice (some ⟨gt, 0, none⟩) sec.length capt] [q] (apartW w) (fun k => apartW w k ∧ k ≠ g) rfl ?ho rfl rfl (by kernel_rfl) (by intro q hq; rw [List.mem_singleton.1 hq]; rfl) N8.out HXV.out.1 HXV.out.2.1 rfl HCC.out (Nat.le_refl 1) HFT.out (fun k hk => hk) S7.out.b ?_; (case ho => exact (Nat.mul_one _).symm); intro w8 hn8 hb8 hg8; have N9 := Aside0.mk hn8; have S8 := Aside0.mk (show WS w w8 #[.slice A0 s.length c0, .slice (some ad) p.length c1, .int .i64 (ln : Int), .bool st] #[.slice (some ⟨g, 0, none⟩) s.length cs, .slice none 0 0, .int .i64 0, .bool true] from ⟨hb8, (hg8.block _ (by have := S7.out.lt; omega) (fun e => apartW.ne1 g HGA.out (Option.some.inj e).symm)).trans S7.out.v1, (hg8.block _ S7.out.lt (fun e => apartW.ne2 g HGA.out (Option.some.inj e).symm)).trans S7.out.v2⟩); clear v1z0 v1f0 v2z0 v2f0 v1z1 v1f1 v2z1 v2f1 v1z2 v1f2 v2z2 v2f2 v1z3 v1f3 v2z3 v2f3; have v1z0 := (blk_cell S8.out.v1 0).trans rfl; have v1f0 := blk_frozen S8.out.v1 0; have v2z0 := (blk_cell S8.out.v2 0).trans rfl; have v2f0 := blk_frozen S8.out.v2 0; have v1z1 := (blk_cell S8.out.v1 1).trans rfl; have v1f1 := blk_frozen S8.out.v1 1; have v2z1 := (blk_cell S8.out.v2 1).trans rfl; have v2f1 := blk_frozen S8.out.v2 1; have v1z2 := (blk_cell S8.out.v1 2).trans rfl; have v1f2 := blk_frozen S8.out.v1 2; have v2z2 := (blk_cell S8.out.v2 2).trans rfl; have v2f2 := blk_frozen S8.out.v2 2; have v1z3 := (blk_cell S8.out.v1 3).trans rfl; have v1f3 := blk_frozen S8.out.v1 3; have v2z3 := (blk_cell S8.out.v2 3).trans rfl; have v2f3 := blk_frozen S8.out.v2 3; clear hn8 hb8 hg8 hq0 bz0)
  have E := ((((S8.out.set2 0 (.slice (some ⟨g, 0, none⟩) s.length cs)).set2 1 (.slice none 0 0)).set2 2 (.int .i64 0)).set2 3 (.bool true))
  have NE := (Kd.N_far (p := ⟨w.heap.size + 1, 3, none⟩) (Kd.N_far (p := ⟨w.heap.size + 1, 2, none⟩) (Kd.N_far (p := ⟨w.heap.size + 1, 1, none⟩) (Kd.N_far (p := ⟨w.heap.size + 1, 0, none⟩) N9.out apartW.ne2 (.slice (some ⟨g, 0, none⟩) s.length cs)) apartW.ne2 (.slice none 0 0)) apartW.ne2 (.int .i64 0)) apartW.ne2 (.bool true))
  refine bodyPost_ret (results_ct rfl _ _ (w.heap.size + 1) 25 #[.slice (some ⟨g, 0, none⟩) s.length cs, .slice none 0 0, .int .i64 0, .bool true] (0, 0) _ rfl E.v2 hu25 rfl info25') rfl ?_
  refine ⟨⟨_, by rw [HE.out]; rfl, ?_⟩, E.b⟩
  rw [HE.out]
  have hlen : ((performD s (p.take ln)).set x.f0.toNat (tear sec x.f1)).length = s.length := by rw [List.length_set, performD_len]
  exact ⟨some ⟨g, 0, none⟩, cs, none, 0, by rw [hlen]; rfl, by rw [hlen]; have h_ := (Kd.N_reads' NE).2.1; omega, Nat.le_refl _, (Kd.N_reads' NE).2.2, Kd.C_nil _ _⟩
theorem sync_says (v : Value) (d : Dk) (w : World) (h : DiskV w v d) : Calls Try.prog 30 #[v] w (DEnds w (syncD d)) := by
  cases hr : runsD d with
  | false => exact sync_bad v d w h hr
  | true =>
    by_cases hl : 0 ≤ d.left ∧ d.left < d.p.length
    · obtain ⟨s, p, left, st⟩ := d
      obtain ⟨ln, rfl⟩ : ∃ ln : Nat, left = (ln : Int) := ⟨left.toNat, by have := hl.1; simp only at this; omega⟩
      exact sync_tear v s p ln st w h hr (by have := hl.2; simp only at this; omega)
    · exact sync_all v d w h hr hl
end Go.Proofs.Ytlnmjgkeiljniaa.Q
