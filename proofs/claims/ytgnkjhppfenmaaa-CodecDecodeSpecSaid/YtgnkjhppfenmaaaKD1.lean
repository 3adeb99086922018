/- The proof's texts, part 2 of 7. -/
import Derived.Laws.EntriesVeiled
import Derived.WalkLawsBesides
import Derived.WalkSpells
import Derived.Test.YtgnkjhppfenmaaaKD0
set_option linter.unusedVariables false
set_option linter.unusedSimpArgs false
/- Small laws of this claim's own: a string appended to a row of the call's own, and where the new row lies. -/
namespace Go.Proofs.Ytgnkjhppfenmaaa.Q
open Go.RowKit Go.Proofs.YtgnkjhppfenmaaaW.PrintWords Go.Proofs.YtgnkjhppfenmaaaW.PrintLast Go.Proofs.YtgnkjhppfenmaaaW.PrintMore

section
variable {P : Program} {w : World}
theorem run_append_str_at (base : Nat) (t u ty e : TypeId) (i : TypeInfo) (ht : P.underlying t = some (.slice e)) (hu : P.underlying u = some .string) (hi : P.info? e = some i) (hz : i.zero = some (.int .u8 0))
    (hsize : i.size = 1) (hby : i.bytes = 1) (v : Value) (n : Nat) (xs : List Value) (hown : w.ownsRow base e 1 v n xs) (s : ByteArray)
    (h63 : n + s.size ≤ maxLen) (hbytes : n + s.size ≤ 140737488355328) (hbase : base ≤ w.heap.size) :
    ∃ v' w', (Builtin.append_ #[t, u] ty #[v, .string s]).run P w = .ok v' w' ∧ w'.ownsRow base e 1 v' (n + s.size) (xs ++ Lib.strCells s) ∧ w.grownBy w' v.ownBlock ∧
      (v'.ownBlock = v.ownBlock ∨ ∃ b, v'.ownBlock = some b ∧ w.heap.size ≤ b) := by
  obtain ⟨v', w', hr, h2, h3, h4⟩ := Lib.run_append_own_string (P := P) w base t u ty e i ht hu hi hz hsize hby v n xs hown s h63 hbytes hbase
  refine ⟨v', w', hr, h2, h3, ?_⟩
  have hxl : xs.length = n := by simpa using hown.1
  rcases hown.2 with ⟨rfl, rfl⟩ | ⟨g, cap, cur, rfl, hbg, hg, hnc, hcm, hcs, htake⟩
  · have hx : xs = [] := List.eq_nil_of_length_eq_zero hxl
    subst hx
    obtain ⟨v2, w2, hr2, h22, _, _⟩ := Lib.run_append_own_string (P := P) w w.heap.size t u ty e i ht hu hi hz hsize hby (.slice none 0 0) 0 [] (own_nil _ _ _ _) s h63 hbytes (Nat.le_refl _)
    rw [hr] at hr2
    injection hr2 with e1 e2
    subst e1
    subst e2
    have hb := own_base h22
    cases hv : v'.ownBlock with
    | none => exact .inl rfl
    | some b => exact .inr ⟨b, rfl, hb b hv⟩
  · by_cases hroom : n + s.size ≤ cap
    · have hcs' : cur.size = cap := by simpa using hcs
      have hr2 := Lib.run_append_room_string (P := P) w t u ty e i ht hu hi hsize g n cap cur hg s hroom (by omega)
      rw [hr] at hr2
      injection hr2 with e1 e2
      subst e1
      exact .inl (by simp [Value.ownBlock])
    · have holds : ∀ j u, xs[j]? = some u → w.cell? ((⟨g, 0, none⟩ : Addr).add j) = some u := hown.cells (g := g) rfl
      have hm : n + s.size ≤ 9223372036854775807 := by simp only [maxLen] at h63; omega
      have hr2 := Lib.run_append_grow_string (P := P) w t u ty e i (.int .u8 0) ht hu hi hz ⟨g, 0, none⟩ n cap xs (by rw [hsize]; simpa using hxl) holds s (by omega) (by omega) (by rw [hby]; exact growslice_fits (by omega) (by omega))
      rw [hr] at hr2
      injection hr2 with e1 e2
      subst e1
      exact .inr ⟨w.heap.size, by simp [Value.ownBlock], Nat.le_refl _⟩
end

section
variable {P : Program} {ops : Array Oper} {o : Oper} {a : Act} {Kc : Act → World → Prop} {Q : Exit → Act → World → Prop} {w0 W : World}
theorem str_cells_nums (xs : List Int) (y : ByteArray) : nums .u8 (xs ++ bytesOf y) = nums .u8 xs ++ Lib.strCells y := by
  rw [nums_append]
  congr 1
  simp [nums, bytesOf, Lib.strCells]
theorem wp_append_str (base : Nat) (s x : Operand) (t u e : TypeId)
    (ho : o.op = .call { callee := .builtin .append, args := #[s, x], argTypes := #[t, u] })
    (ht : P.underlying t = some (.slice e)) (hu : P.underlying u = some .string) (hinfo : (P.info? e).map (fun i => (i.zero, i.size, i.bytes)) = some (some (.int .u8 0), 1, 1))
    (v : Value) (xs : List Int) (y : ByteArray) (ok : Nat → Prop) (hs : a.eval s = v) (hx : a.eval x = .string y) (hfresh : ∀ k, W.heap.size ≤ k → ok k)
    (HO : Kd.R (Kd.int .u8) e W base ok v xs) (HB : Below base w0 W) (hbase : base ≤ W.heap.size) (hl : xs.length + y.size ≤ 140737488355328)
    (h : ∀ v1 w1, Kd.R (Kd.int .u8) e w1 base ok v1 (xs ++ bytesOf y) → Below base w0 w1 → W.grownBy w1 v.ownBlock → (v1.ownBlock = v.ownBlock ∨ ∃ b, v1.ownBlock = some b ∧ W.heap.size ≤ b) → Kc (a.put o.dst v1) w1) :
    Oper.wp P o a W Kc Q := by
  have hown := Kd.own_of_R HO
  obtain ⟨i0, hi, hzz⟩ := Option.map_eq_some_iff.1 hinfo
  simp only [Prod.mk.injEq] at hzz
  obtain ⟨hz0, hz1, hz2⟩ := hzz
  obtain ⟨v', w', hr, h2, h3, h4⟩ := run_append_str_at (P := P) (w := W) base t u o.type e i0 ht hu hi hz0 hz1 hz2 v xs.length _ hown y (by simp only [maxLen]; omega) hl hbase
  unfold Oper.wp execOp
  simp only [ho, resolve, invoke, builtin, Sem.run_bind, Sem.run_pure, Result.andThen_ok, List.map_toArray, List.map_cons, List.map_nil, hs, hx, hr]
  refine h v' w' ?_ (HB.grown h3 hbase (own_base hown)) h3 h4
  have hl2 : (xs ++ bytesOf y).length = xs.length + y.size := by rw [List.length_append, bytesOf_length]
  have h2' : w'.ownsRow base e 1 v' (xs ++ bytesOf y).length (nums .u8 (xs ++ bytesOf y)) := by rw [hl2, str_cells_nums]; exact h2
  refine Kd.R_of_own h2' (fun k hk => ?_)
  rcases h4 with h4 | ⟨b, hb, hle⟩
  · exact HO.1 k (h4 ▸ hk)
  · rw [hb] at hk
    injection hk with hk
    exact hfresh k (by omega)
theorem append_str_step (base : Nat) (hw : Region.wanted o (yielded ops a.tmps) = true) (s x : Operand) (t u e : TypeId)
    (ho : o.op = .call { callee := .builtin .append, args := #[s, x], argTypes := #[t, u] })
    (ht : P.underlying t = some (.slice e)) (hu : P.underlying u = some .string) (hinfo : (P.info? e).map (fun i => (i.zero, i.size, i.bytes)) = some (some (.int .u8 0), 1, 1))
    (v : Value) (xs : List Int) (y : ByteArray) (ok : Nat → Prop) (hs : a.eval s = v) (hx : a.eval x = .string y) (hfresh : ∀ k, W.heap.size ≤ k → ok k)
    (HO : Kd.R (Kd.int .u8) e W base ok v xs) (HB : Below base w0 W) (hbase : base ≤ W.heap.size) (hl : xs.length + y.size ≤ 140737488355328)
    (h : ∀ v1 w1, Kd.R (Kd.int .u8) e w1 base ok v1 (xs ++ bytesOf y) → Below base w0 w1 → W.grownBy w1 v.ownBlock → (v1.ownBlock = v.ownBlock ∨ ∃ b, v1.ownBlock = some b ∧ W.heap.size ≤ b) → Kc (a.put o.dst v1) w1) :
    if Region.wanted o (yielded ops a.tmps) = true then Oper.wp P o a W Kc Q else Kc (a.put o.dst undef) W := by
  rw [if_pos hw]
  exact wp_append_str base s x t u e ho ht hu hinfo v xs y ok hs hx hfresh HO HB hbase hl h
theorem Kd.R_append_strs {rest : List Oper} (base : Nat) (hgd : o.guard = none) (s x : Operand) (t u e : TypeId)
    (ho : o.op = .call { callee := .builtin .append, args := #[s, x], argTypes := #[t, u] })
    (ht : P.underlying t = some (.slice e)) (hu : P.underlying u = some .string) (hinfo : (P.info? e).map (fun i => (i.zero, i.size, i.bytes)) = some (some (.int .u8 0), 1, 1))
    (v : Value) (xs : List Int) (y : ByteArray) (ok : Nat → Prop) (hs : a.eval s = v) (hx : a.eval x = .string y) (hfresh : ∀ k, W.heap.size ≤ k → ok k)
    (HO : Kd.R (Kd.int .u8) e W base ok v xs) (HB : Below base w0 W) (hbase : base ≤ W.heap.size) (hl : xs.length + y.size ≤ 140737488355328)
    (h : ∀ v1 w1, Kd.R (Kd.int .u8) e w1 base ok v1 (xs ++ bytesOf y) → Below base w0 w1 → W.grownBy w1 v.ownBlock → (v1.ownBlock = v.ownBlock ∨ ∃ b, v1.ownBlock = some b ∧ W.heap.size ≤ b) → wpList P ops Q rest (a.put o.dst v1) w1) :
    wpList P ops Q (o :: rest) a W :=
  wpList_plain hgd fun _ hK => wp_append_str base s x t u e ho ht hu hinfo v xs y ok hs hx hfresh HO HB hbase hl fun v1 w1 h1 h2 h3 h4 => hK _ _ (h v1 w1 h1 h2 h3 h4)
theorem Kd.R_append_strs_step (base : Nat) (hw : Region.wanted o (yielded ops a.tmps) = true) (s x : Operand) (t u e : TypeId)
    (ho : o.op = .call { callee := .builtin .append, args := #[s, x], argTypes := #[t, u] })
    (ht : P.underlying t = some (.slice e)) (hu : P.underlying u = some .string) (hinfo : (P.info? e).map (fun i => (i.zero, i.size, i.bytes)) = some (some (.int .u8 0), 1, 1))
    (v : Value) (xs : List Int) (y : ByteArray) (ok : Nat → Prop) (hs : a.eval s = v) (hx : a.eval x = .string y) (hfresh : ∀ k, W.heap.size ≤ k → ok k)
    (HO : Kd.R (Kd.int .u8) e W base ok v xs) (HB : Below base w0 W) (hbase : base ≤ W.heap.size) (hl : xs.length + y.size ≤ 140737488355328)
    (h : ∀ v1 w1, Kd.R (Kd.int .u8) e w1 base ok v1 (xs ++ bytesOf y) → Below base w0 w1 → W.grownBy w1 v.ownBlock → (v1.ownBlock = v.ownBlock ∨ ∃ b, v1.ownBlock = some b ∧ W.heap.size ≤ b) → Kc (a.put o.dst v1) w1) :
    if Region.wanted o (yielded ops a.tmps) = true then Oper.wp P o a W Kc Q else Kc (a.put o.dst undef) W := by
  rw [if_pos hw]
  exact wp_append_str base s x t u e ho ht hu hinfo v xs y ok hs hx hfresh HO HB hbase hl h
/-- A call of a function value that the call itself made. -/
theorem goesV_ {oi : Oper} {N : Option Tmp} {w : World} {f : FuncId} {fn : Func} {s : Operand} {ao : Array Operand} {ts : Array TypeId} {cap : Array Value} (hf : P.funcs[f]? = some fn) (hname : (fn.name == "runtime.NumGoroutine") = false) (hb : fn.body.isSome = true) (args : Array Value)
    (hw : Region.wanted oi (yielded ops a.tmps) = true) (hN : oi.dst = N) (hop : oi.op = .call { callee := .value s, args := ao, argTypes := ts }) (hs : a.eval s = .func (.func f) #[] cap) (hargs : ao.map a.eval ++ cap = args)
    (h : Calls P f args w fun e w' => ∃ v, e = .returned v ∧ Kc (a.put N v) w') : if Region.wanted oi (yielded ops a.tmps) = true then Oper.wp P oi a w Kc Q else Kc (a.put N undef) w := by
  refine call_ f args hw hN ?_ h
  have he := enters_ hf hname hb args w
  unfold execOp
  simp [hop, resolve, Deferred.ofValue, invoke, hs, hargs, he]
end
end Go.Proofs.Ytgnkjhppfenmaaa.Q
/- The reader of codec: want, take. -/
namespace Go.Proofs.Ytgnkjhppfenmaaa.Q
open Go.RowKit Go.Proofs.YtgnkjhppfenmaaaW.PrintWords Go.Proofs.YtgnkjhppfenmaaaW.PrintLast Go.Proofs.YtgnkjhppfenmaaaW.PrintMore
/-- the one error with which reading ends -/
def codeErr : List PanicEntry := [{ v := .iface 28 (.int .i64 10), recovered := false }]
/-- the reader at block g still has xs to read; the bytes came in by w0 -/
def RD (w0 W : World) (g : Nat) (xs : List Int) : Prop := ∃ A c, W.heap[g]? = some (.cells #[.slice A xs.length c] 56 (0, 0)) ∧ xs.length ≤ c ∧ (Kd.int .u8).C w0 A xs.length xs
theorem RD.mk' {w0 W : World} {g : Nat} {xs : List Int} {A : Option Addr} {n c : Nat} (hb : W.heap[g]? = some (.cells #[.slice A n c] 56 (0, 0))) (hn : n = xs.length) (hl : n ≤ c) (hC : (Kd.int .u8).C w0 A xs.length xs) : RD w0 W g xs := by
  subst hn
  exact ⟨A, c, hb, hl, hC⟩
/-- what stays, in a call that is handed the reader -/
structure RK (w0 w w' : World) (g : Nat) : Prop where
  b : Below w0.heap.size w0 w'
  k : KeepBut w w' g none
theorem RK.refl {w0 w : World} (h : Below w0.heap.size w0 w) (g : Nat) : RK w0 w w g := ⟨h, KeepBut.refl _ _ _⟩
theorem RK.trans {w0 w w1 w2 : World} {g : Nat} (h : RK w0 w w1 g) (k : RK w0 w1 w2 g) : RK w0 w w2 g := ⟨k.b, h.k.trans k.k (.inl rfl)⟩
theorem RK.alloc {w0 w w1 : World} {g : Nat} (h : RK w0 w w1 g) (o : Obj) (h0 : w0.heap.size ≤ w1.heap.size) : RK w0 w (w1.alloc o) g := ⟨h.b.alloc h0 o, keep_alloc h.k o⟩
set_option maxHeartbeats 2000000 in
set_option maxRecDepth 100000 in
theorem want_ok (p : Value) (w : World) : Calls Try.prog 29 #[p, .bool true] w fun e w' => e = .returned (.tuple #[]) ∧ w = w' := by
  go_enter Try.func29, Try.ntmps29
  go_wp2
  first | go_end0 | ((try simp only [Exit.inBlock, Exit.then]); refine bodyPost_ret (results_none rfl _ _ _) rfl ?_)
  exact ⟨rfl, rfl⟩
set_option maxHeartbeats 2000000 in
set_option maxRecDepth 100000 in
theorem want_not (p : Value) (w : World) : Calls Try.prog 29 #[p, .bool false] w fun e w' => e = .panicked codeErr ∧ w = w' := by
  have hu28 := Try.underlying28
  go_enter Try.func29, Try.ntmps29
  go_wp2
  exact ⟨rfl, rfl, rfl⟩
set_option maxHeartbeats 2000000 in
set_option maxRecDepth 100000 in
theorem take_no (g : Nat) (A : Option Addr) (n c : Nat) (m : Int) (w : World) (hb : w.heap[g]? = some (.cells #[.slice A n c] 56 (0, 0))) (hm : (n : Int) < m) :
    Calls Try.prog 40 #[.pointer (some ⟨g, 0, none⟩), .int .i64 m] w fun e w' => e = .panicked codeErr ∧ w = w' := by
  have hz : w.cell? ⟨g, 0, none⟩ = some (.slice A n c) := (blk_cell hb 0).trans rfl
  have hd : decide (m ≤ (n : Int)) = false := decide_eq_false (by omega)
  go_enter Try.func40, Try.ntmps40
  go_wp2_with (go_at_call 29; (refine (want_not _ _).mono ?_); rintro e w' ⟨rfl, rfl⟩)
  exact ⟨rfl, rfl, rfl⟩
set_option maxHeartbeats 2000000 in
set_option maxRecDepth 100000 in
theorem take_ok (g : Nat) (A : Option Addr) (n c : Nat) (m : Int) (w : World) (hb : w.heap[g]? = some (.cells #[.slice A n c] 56 (0, 0))) (h0 : 0 ≤ m) (hm : m ≤ (n : Int)) (hc : n ≤ c) :
    Calls Try.prog 40 #[.pointer (some ⟨g, 0, none⟩), .int .i64 m] w fun e w' => e = .returned (.slice A m.toNat m.toNat) ∧ w' = w.setCell ⟨g, 0, none⟩ (.slice (if c = m.toNat then A else A.map (·.add m.toNat)) (n - m.toNat) (c - m.toNat)) := by
  have hz : w.cell? ⟨g, 0, none⟩ = some (.slice A n c) := (blk_cell hb 0).trans rfl
  have hf := blk_frozen hb 0
  have hd : decide (m ≤ (n : Int)) = true := decide_eq_true hm
  go_enter Try.func40, Try.ntmps40
  go_wp2_with (go_at_call 29; (refine (want_ok _ _).mono ?_); rintro e w' ⟨rfl, rfl⟩)
  all_goals
    go_ret
    exact ⟨rfl, rfl⟩
/-- the reader behind a take -/
theorem RD.after {w0 w : World} {g : Nat} {xs : List Int} {A : Option Addr} {c : Nat} (m : Nat) (hB : Below w0.heap.size w0 w) (hg : w0.heap.size ≤ g) (hb : w.heap[g]? = some (.cells #[.slice A xs.length c] 56 (0, 0))) (hc : xs.length ≤ c) (hC : (Kd.int .u8).C w0 A xs.length xs) (hm : m ≤ xs.length) :
    RD w0 (w.setCell ⟨g, 0, none⟩ (.slice (if c = m then A else A.map (·.add m)) (xs.length - m) (c - m))) g (xs.drop m) ∧ RK w0 w (w.setCell ⟨g, 0, none⟩ (.slice (if c = m then A else A.map (·.add m)) (xs.length - m) (c - m))) g := by
  have h1 := Kd.C_drop hC hm hc
  refine ⟨RD.mk' (by simpa using blk_set hb 0 (.slice (if c = m then A else A.map (·.add m)) (xs.length - m) (c - m))) List.length_drop.symm (by omega) ?_, ⟨hB.setCell hg _, (KeepBut.refl w g none).set_ 0 _⟩⟩
  have h2 : (Kd.int .u8).sz = 1 := rfl
  rw [h2, Nat.mul_one] at h1
  exact h1
/-- take a byte -/
theorem take_byte {w0 w : World} {g : Nat} {c : Int} {xs : List Int} (hB : Below w0.heap.size w0 w) (hg : w0.heap.size ≤ g) (h : RD w0 w g (c :: xs)) :
    Calls Try.prog 40 #[.pointer (some ⟨g, 0, none⟩), .int .i64 1] w fun e w' => (∃ ad : Addr, e = .returned (.slice (some ad) 1 1) ∧ w'.cell? ad = some (.int .u8 c)) ∧ RD w0 w' g xs ∧ RK w0 w w' g := by
  obtain ⟨A, k, hb, hl, hC⟩ := h
  refine (take_ok g A _ k 1 w hb (by omega) (by simp; omega) hl).mono ?_
  rintro e w' ⟨rfl, rfl⟩
  obtain ⟨h1, h2⟩ := RD.after 1 hB hg hb hl hC (by simp)
  obtain ⟨ad, rfl, hz⟩ := Kd.at_int hC 0 (by omega) (by simp)
  refine ⟨⟨ad, rfl, ?_⟩, h1, h2⟩
  have hz2 : w0.cell? ad = some (.int .u8 c) := by simpa [rd, Addr.add] using hz
  exact (h2.b.cell (World.block_lt_of_cell? w0 _ hz2)).trans hz2
theorem take_none {w0 w : World} {g : Nat} (hB : Below w0.heap.size w0 w) (h : RD w0 w g []) :
    Calls Try.prog 40 #[.pointer (some ⟨g, 0, none⟩), .int .i64 1] w fun e w' => e = .panicked codeErr ∧ RK w0 w w' g := by
  obtain ⟨A, k, hb, hl, hC⟩ := h
  refine (take_no g A _ k 1 w hb (by simp)).mono ?_
  rintro e w' ⟨rfl, rfl⟩
  exact ⟨rfl, RK.refl hB g⟩
/-- take some bytes -/
theorem take_some {w0 w : World} {g : Nat} {xs : List Int} (m : Nat) (hB : Below w0.heap.size w0 w) (hg : w0.heap.size ≤ g) (h : RD w0 w g xs) (hm : m ≤ xs.length) :
    Calls Try.prog 40 #[.pointer (some ⟨g, 0, none⟩), .int .i64 (m : Int)] w fun e w' => (∃ A : Option Addr, e = .returned (.slice A m m) ∧ (Kd.int .u8).C w' A m (xs.take m)) ∧ RD w0 w' g (xs.drop m) ∧ RK w0 w w' g := by
  obtain ⟨A, k, hb, hl, hC⟩ := h
  refine (take_ok g A _ k (m : Int) w hb (by omega) (by omega) hl).mono ?_
  rintro e w' ⟨rfl, rfl⟩
  obtain ⟨h1, h2⟩ := RD.after m hB hg hb hl hC hm
  have h3 := Kd.C_take hC hm
  rw [List.length_take, Nat.min_eq_left hm] at h3
  exact ⟨⟨A, by simp, Kd.C_below h3 h2.b⟩, by simpa using h1, by simpa using h2⟩
end Go.Proofs.Ytgnkjhppfenmaaa.Q
/- The reader of codec: number. -/
namespace Go.Proofs.Ytgnkjhppfenmaaa.Q
open Go.RowKit Go.Proofs.YtgnkjhppfenmaaaW.PrintWords Go.Proofs.YtgnkjhppfenmaaaW.PrintLast Go.Proofs.YtgnkjhppfenmaaaW.PrintMore
/-- how the reading of a number ends -/
def NumEnds (w0 w' : World) (g : Nat) (r : Option (Int × List Int)) (e : Ending) : Prop := match r with
  | some (u, ys) => e = .returned (.int .u64 u) ∧ RD w0 w' g ys
  | none => e = .panicked codeErr
set_option maxHeartbeats 8000000 in
set_option maxRecDepth 100000 in
theorem number_ends {w0 w : World} {g : Nat} {xs : List Int} (hB : Below w0.heap.size w0 w) (hg : w0.heap.size ≤ g) (h : RD w0 w g xs) (hx : areBytes xs = true) :
    Calls Try.prog 42 #[.pointer (some ⟨g, 0, none⟩)] w fun e w' => NumEnds w0 w' g (rdNum xs) e ∧ RK w0 w w' g := by
  have HB := Aside0.mk hB
  have HG := Aside0.mk hg
  have HR := Aside0.mk h
  have HX := Aside0.mk hx
  have HK := Aside0.mk (RK.refl hB g)
  clear hB hg h hx
  go_enter Try.func42, Try.ntmps42
  go_wp2
  go_loopg [2, 3] xs.length (fun kq v2 v3 w' => ∃ (i : Nat) (u : Int) (ys : List Int), v2 = .int .u64 u ∧ v3 = .int .i64 (i : Int) ∧ Aside0 (kq = ys.length) ∧ Aside0 (i ≤ 9 ∧ 0 ≤ u ∧ u < 2 ^ (7 * i)) ∧ Aside0 (rdNumA i u ys = rdNum xs) ∧ Aside0 (areBytes ys = true) ∧ Aside0 (RD w0 w' g ys) ∧ Aside0 (RK w0 w w' g))
  case atStart => exact ⟨0, 0, xs, rfl, rfl, ⟨rfl⟩, ⟨by decide⟩, ⟨rfl⟩, HX, HR, HK⟩
  case round =>
    obtain ⟨i, u, ys, rfl, rfl, HI, HU, HE, HY, HD, HW⟩ := hrel
    cases ys with
    | nil =>
      go_wp2_with (go_at_call 40; (refine (take_none HW.out.b HD.out).mono ?_); rintro e w1 ⟨rfl, hk⟩)
      have hr : rdNum xs = none := by rw [← HE.out, rdNumA]
      exact ⟨rfl, by rw [hr]; exact rfl, HW.out.trans hk⟩
    | cons c ys =>
      have hc := bytes_head HY.out
      have hc0 := eq_true hc.1
      have hi9 : (i : Int) ≤ 9 := by have := HU.out.1; omega
      have hi0 : (0 : Int) ≤ (i : Int) := by omega
      by_cases hi : i = 0
      · have e1 : ((i : Int) == 0) = true := by simp [hi]
        have e3 : decide ((i : Int) < 9) = true := decide_eq_true (by omega)
        have hok : Aside0 (okAt i c = true) := ⟨by unfold okAt; simp [hi]⟩
        have h9 : i < 9 ∨ c ≤ 1 := .inl (by omega)
        have h9' := h9
        clear hi
        have hE := Aside0.mk (acc_eq i u c HU.out.1 HU.out.2.1 HU.out.2.2 hc.1 hc.2 h9)
        have hE2 := Aside0.mk (acc_bound i u c HU.out.2.1 HU.out.2.2)
        unfold accG at hE
        clear h9
        by_cases h128 : c < 128
        · have h128b : decide (c < 128) = true := decide_eq_true h128
          have hr : Aside0 (rdNum xs = some (u + c % 128 * 2 ^ (7 * i), ys)) := ⟨by rw [← HE.out, rdNumA, if_pos hok.out, if_pos h128]⟩
          clear h128 hc
          go_wp2_with (first | (go_at_call 40; (refine (take_byte HW.out.b HG.out HD.out).mono ?_); rintro e w1 ⟨⟨ad, rfl, hz⟩, hd, hk⟩; have HD1 := Aside0.mk hd; have HK1 := Aside0.mk (HW.out.trans hk); clear hd hk) | (go_at_call 29; (refine (want_ok _ _).mono ?_); rintro e w2 ⟨rfl, rfl⟩))
          go_ret
          exact ⟨by rw [hr.out]; exact ⟨by rw [← hE.out]; rfl, HD1.out⟩, HK1.out⟩
        · have h128b : decide (c < 128) = false := decide_eq_false h128
          have hr : Aside0 (rdNumA (i + 1) (u + c % 128 * 2 ^ (7 * i)) ys = rdNum xs) := ⟨by rw [← HE.out, rdNumA, if_pos hok.out, if_neg h128]⟩
          have hy := Aside0.mk (bytes_tail HY.out)
          have h8 : Aside0 (i + 1 ≤ 9) := ⟨by have := HU.out.1; rcases h9' with h | h <;> omega⟩
          clear h128 hc h9'
          go_wp2_with (first | (go_at_call 40; (refine (take_byte HW.out.b HG.out HD.out).mono ?_); rintro e w1 ⟨⟨ad, rfl, hz⟩, hd, hk⟩; have HD1 := Aside0.mk hd; have HK1 := Aside0.mk (HW.out.trans hk); clear hd hk) | (go_at_call 29; (refine (want_ok _ _).mono ?_); rintro e w2 ⟨rfl, rfl⟩))
          go_roundg ys.length
          case measure => have := HI.out; simp at this; omega
          case rel => exact ⟨i + 1, u + c % 128 * 2 ^ (7 * i), ys, by rw [← hE.out], by go_num, ⟨rfl⟩, ⟨⟨h8.out, hE2.out⟩⟩, hr, hy, HD1, HK1⟩
      · have e1 : ((i : Int) == 0) = false := by simp [hi]
        by_cases hc2 : c = 0
        · have e2 : (c != 0) = false := by simp [hc2]
          have e2' : (c == 0) = true := by simp [hc2]
          have hr : rdNum xs = none := by rw [← HE.out, rdNumA, if_neg]; unfold okAt; simp [hi, hc2]
          have hr' := Aside0.mk hr
          clear hi hc2 hr hc
          go_wp2_with (first | (go_at_call 40; (refine (take_byte HW.out.b HG.out HD.out).mono ?_); rintro e w1 ⟨⟨ad, rfl, hz⟩, hd, hk⟩; have HD1 := Aside0.mk hd; have HK1 := Aside0.mk (HW.out.trans hk); clear hd hk) | (go_at_call 29; (refine (want_not _ _).mono ?_); rintro e w2 ⟨rfl, rfl⟩))
          exact ⟨rfl, by rw [hr'.out]; exact rfl, HK1.out⟩
        · have e2 : (c != 0) = true := by simp [hc2]
          have e2' : (c == 0) = false := by simp [hc2]
          by_cases hi8 : i < 9
          · have e3 : decide ((i : Int) < 9) = true := decide_eq_true (by omega)
            have hok : Aside0 (okAt i c = true) := ⟨by unfold okAt; simp [hc2, hi8]⟩
            have h9 : i < 9 ∨ c ≤ 1 := .inl hi8
            have h9' := h9
            clear hi hc2 hi8
            have hE := Aside0.mk (acc_eq i u c HU.out.1 HU.out.2.1 HU.out.2.2 hc.1 hc.2 h9)
            have hE2 := Aside0.mk (acc_bound i u c HU.out.2.1 HU.out.2.2)
            unfold accG at hE
            clear h9
            by_cases h128 : c < 128
            · have h128b : decide (c < 128) = true := decide_eq_true h128
              have hr : Aside0 (rdNum xs = some (u + c % 128 * 2 ^ (7 * i), ys)) := ⟨by rw [← HE.out, rdNumA, if_pos hok.out, if_pos h128]⟩
              clear h128 hc
              go_wp2_with (first | (go_at_call 40; (refine (take_byte HW.out.b HG.out HD.out).mono ?_); rintro e w1 ⟨⟨ad, rfl, hz⟩, hd, hk⟩; have HD1 := Aside0.mk hd; have HK1 := Aside0.mk (HW.out.trans hk); clear hd hk) | (go_at_call 29; (refine (want_ok _ _).mono ?_); rintro e w2 ⟨rfl, rfl⟩))
              go_ret
              exact ⟨by rw [hr.out]; exact ⟨by rw [← hE.out]; rfl, HD1.out⟩, HK1.out⟩
            · have h128b : decide (c < 128) = false := decide_eq_false h128
              have hr : Aside0 (rdNumA (i + 1) (u + c % 128 * 2 ^ (7 * i)) ys = rdNum xs) := ⟨by rw [← HE.out, rdNumA, if_pos hok.out, if_neg h128]⟩
              have hy := Aside0.mk (bytes_tail HY.out)
              have h8 : Aside0 (i + 1 ≤ 9) := ⟨by have := HU.out.1; rcases h9' with h | h <;> omega⟩
              clear h128 hc h9'
              go_wp2_with (first | (go_at_call 40; (refine (take_byte HW.out.b HG.out HD.out).mono ?_); rintro e w1 ⟨⟨ad, rfl, hz⟩, hd, hk⟩; have HD1 := Aside0.mk hd; have HK1 := Aside0.mk (HW.out.trans hk); clear hd hk) | (go_at_call 29; (refine (want_ok _ _).mono ?_); rintro e w2 ⟨rfl, rfl⟩))
              go_roundg ys.length
              case measure => have := HI.out; simp at this; omega
              case rel => exact ⟨i + 1, u + c % 128 * 2 ^ (7 * i), ys, by rw [← hE.out], by go_num, ⟨rfl⟩, ⟨⟨h8.out, hE2.out⟩⟩, hr, hy, HD1, HK1⟩
          · have e3 : decide ((i : Int) < 9) = false := decide_eq_false (by omega)
            by_cases hc1 : c ≤ 1
            · have e4 : decide (c ≤ 1) = true := decide_eq_true hc1
              have hok : Aside0 (okAt i c = true) := ⟨by unfold okAt; simp [hc2, hc1]⟩
              have h9 : i < 9 ∨ c ≤ 1 := .inr hc1
              have h9' := h9
              clear hi hc2 hi8 hc1
              have hE := Aside0.mk (acc_eq i u c HU.out.1 HU.out.2.1 HU.out.2.2 hc.1 hc.2 h9)
              have hE2 := Aside0.mk (acc_bound i u c HU.out.2.1 HU.out.2.2)
              unfold accG at hE
              clear h9
              by_cases h128 : c < 128
              · have h128b : decide (c < 128) = true := decide_eq_true h128
                have hr : Aside0 (rdNum xs = some (u + c % 128 * 2 ^ (7 * i), ys)) := ⟨by rw [← HE.out, rdNumA, if_pos hok.out, if_pos h128]⟩
                clear h128 hc
                go_wp2_with (first | (go_at_call 40; (refine (take_byte HW.out.b HG.out HD.out).mono ?_); rintro e w1 ⟨⟨ad, rfl, hz⟩, hd, hk⟩; have HD1 := Aside0.mk hd; have HK1 := Aside0.mk (HW.out.trans hk); clear hd hk) | (go_at_call 29; (refine (want_ok _ _).mono ?_); rintro e w2 ⟨rfl, rfl⟩))
                go_ret
                exact ⟨by rw [hr.out]; exact ⟨by rw [← hE.out]; rfl, HD1.out⟩, HK1.out⟩
              · have h128b : decide (c < 128) = false := decide_eq_false h128
                have hr : Aside0 (rdNumA (i + 1) (u + c % 128 * 2 ^ (7 * i)) ys = rdNum xs) := ⟨by rw [← HE.out, rdNumA, if_pos hok.out, if_neg h128]⟩
                have hy := Aside0.mk (bytes_tail HY.out)
                have h8 : Aside0 (i + 1 ≤ 9) := ⟨by have := HU.out.1; rcases h9' with h | h <;> omega⟩
                clear h128 hc h9'
                go_wp2_with (first | (go_at_call 40; (refine (take_byte HW.out.b HG.out HD.out).mono ?_); rintro e w1 ⟨⟨ad, rfl, hz⟩, hd, hk⟩; have HD1 := Aside0.mk hd; have HK1 := Aside0.mk (HW.out.trans hk); clear hd hk) | (go_at_call 29; (refine (want_ok _ _).mono ?_); rintro e w2 ⟨rfl, rfl⟩))
                go_roundg ys.length
                case measure => have := HI.out; simp at this; omega
                case rel => exact ⟨i + 1, u + c % 128 * 2 ^ (7 * i), ys, by rw [← hE.out], by go_num, ⟨rfl⟩, ⟨⟨h8.out, hE2.out⟩⟩, hr, hy, HD1, HK1⟩
            · have e4 : decide (c ≤ 1) = false := decide_eq_false hc1
              have hr : rdNum xs = none := by rw [← HE.out, rdNumA, if_neg]; unfold okAt; simp [hi8, hc1]
              have hr' := Aside0.mk hr
              clear hi hc2 hr hc hi8 hc1
              go_wp2_with (first | (go_at_call 40; (refine (take_byte HW.out.b HG.out HD.out).mono ?_); rintro e w1 ⟨⟨ad, rfl, hz⟩, hd, hk⟩; have HD1 := Aside0.mk hd; have HK1 := Aside0.mk (HW.out.trans hk); clear hd hk) | (go_at_call 29; (refine (want_not _ _).mono ?_); rintro e w2 ⟨rfl, rfl⟩))
              exact ⟨rfl, by rw [hr'.out]; exact rfl, HK1.out⟩
end Go.Proofs.Ytgnkjhppfenmaaa.Q
/- The reader of codec: length. -/
namespace Go.Proofs.Ytgnkjhppfenmaaa.Q
open Go.RowKit Go.Proofs.YtgnkjhppfenmaaaW.PrintWords Go.Proofs.YtgnkjhppfenmaaaW.PrintLast Go.Proofs.YtgnkjhppfenmaaaW.PrintMore
/-- how the reading of a length ends -/
def LenEnds (w0 w' : World) (g : Nat) (r : Option (Nat × List Int)) (e : Ending) : Prop := match r with
  | some (m, ys) => e = .returned (.int .i64 (m : Int)) ∧ RD w0 w' g ys ∧ m ≤ ys.length
  | none => e = .panicked codeErr
theorem rdNumA_bytes : ∀ (xs : List Int) (i : Nat) (u : Int) (v : Int) (ys : List Int), rdNumA i u xs = some (v, ys) → areBytes xs = true → areBytes ys = true
  | [], _, _, _, _, h, _ => by cases h
  | c :: xs, i, u, v, ys, h, hx => by
    rw [rdNumA] at h
    split at h
    · split at h
      · cases h
        exact bytes_tail hx
      · exact rdNumA_bytes xs _ _ _ _ h (bytes_tail hx)
    · cases h
theorem rdNumA_nonneg : ∀ (xs : List Int) (i : Nat) (u : Int) (v : Int) (ys : List Int), rdNumA i u xs = some (v, ys) → 0 ≤ u → 0 ≤ v
  | [], _, _, _, _, h, _ => by cases h
  | c :: xs, i, u, v, ys, h, hu => by
    have hp : (0 : Int) < 2 ^ (7 * i) := by exact_mod_cast Nat.two_pow_pos (7 * i)
    have h1 : 0 ≤ c % 128 * 2 ^ (7 * i) := Int.mul_nonneg (by omega) (by omega)
    rw [rdNumA] at h
    split at h
    · split at h
      · cases h
        omega
      · exact rdNumA_nonneg xs _ _ _ _ h (by omega)
    · cases h
set_option maxHeartbeats 8000000 in
set_option maxRecDepth 100000 in
theorem length_ends {w0 w : World} {g : Nat} {xs : List Int} (hB : Below w0.heap.size w0 w) (hg : w0.heap.size ≤ g) (h : RD w0 w g xs) (hx : areBytes xs = true) :
    Calls Try.prog 43 #[.pointer (some ⟨g, 0, none⟩)] w fun e w' => LenEnds w0 w' g (rdLen xs) e ∧ RK w0 w w' g := by
  have C := Aside0.mk (number_ends hB hg h hx)
  cases hn : rdNum xs with
  | none =>
    have hl : rdLen xs = none := by rw [rdLen, hn]
    rw [hn] at C
    have HL := Aside0.mk hl
    clear hn hl
    go_enter Try.func43, Try.ntmps43
    go_wp2_with (go_at_call 42; (refine C.out.mono ?_); rintro e w1 ⟨rfl, hk⟩)
    exact ⟨rfl, by rw [HL.out]; exact rfl, hk⟩
  | some p =>
    obtain ⟨u, ys⟩ := p
    have hu := rdNumA_nonneg xs 0 0 u ys hn (by omega)
    have hl : rdLen xs = if u ≤ (ys.length : Int) then some (u.toNat, ys) else none := by rw [rdLen, hn]
    rw [hn] at C
    have HL := Aside0.mk hl
    clear hn hl
    have hu0 := eq_true hu
    go_enter Try.func43, Try.ntmps43
    go_upto_region 2 with (go_at_call 42; (refine C.out.mono ?_); rintro e w1 ⟨⟨rfl, hr⟩, hk⟩)
    obtain ⟨A, c, hb, hlc, hC⟩ := hr
    have hz : w1.cell? ⟨g, 0, none⟩ = some (.slice A ys.length c) := (blk_cell hb 0).trans rfl
    have hw : IntKind.u64.wrap (ys.length : Int) = (ys.length : Int) := by have := hC.2.1; rw [u64w]; omega
    have hb' := Aside0.mk (RD.mk' hb rfl hlc hC)
    have hy := Aside0.mk hC.2.1
    clear hb hlc hC
    by_cases hle : u ≤ (ys.length : Int)
    · have hd : decide (u ≤ IntKind.u64.wrap (ys.length : Int)) = true := by rw [hw]; exact decide_eq_true hle
      have hd2 : decide (u ≤ (ys.length : Int)) = true := decide_eq_true hle
      have HW := Aside0.mk hw
      have HLE := Aside0.mk hle
      clear hw hle hu
      go_wp2_with (go_at_call 29; (refine (want_ok _ _).mono ?_); rintro e w2 ⟨rfl, rfl⟩)
      go_ret
      refine ⟨?_, hk⟩
      rw [HL.out, if_pos HLE.out]
      have hwu : wrap64 u = (u.toNat : Int) := by have h1 := HLE.out; have h2 := hy.out; have h3 := of_eq_true hu0; unfold wrap64; omega
      refine ⟨?_, hb'.out, by have := HLE.out; omega⟩
      show Ending.returned (.int .i64 (wrap64 u)) = _
      rw [hwu]
    · have hd : decide (u ≤ IntKind.u64.wrap (ys.length : Int)) = false := by rw [hw]; exact decide_eq_false hle
      have hd2 : decide (u ≤ (ys.length : Int)) = false := decide_eq_false hle
      have HW := Aside0.mk hw
      have HLE := Aside0.mk hle
      clear hw hle hu
      go_wp2_with (go_at_call 29; (refine (want_not _ _).mono ?_); rintro e w2 ⟨rfl, rfl⟩)
      exact ⟨rfl, by rw [HL.out, if_neg (by have := HLE.out; omega)]; exact rfl, hk⟩
end Go.Proofs.Ytgnkjhppfenmaaa.Q
/- The contract of codec.formed. -/
namespace Go.Proofs.Ytgnkjhppfenmaaa.Q
open Go.RowKit Go.Proofs.YtgnkjhppfenmaaaW.PrintWords Go.Proofs.YtgnkjhppfenmaaaW.PrintLast Go.Proofs.YtgnkjhppfenmaaaW.PrintMore
attribute [local go_sem] max2_int min2_int max_two min_two max_three min_three max_four min_four
def codec_formed.f (a0_0 : Int) (a0_1 : Int) (a0_2 : ByteArray) (l0_3 : List (S24)) : Option (Int × Bool) := some (formedV ⟨a0_0, a0_1, a0_2, l0_3⟩)
set_option maxHeartbeats 2000000 in
set_option maxRecDepth 100000 in
theorem formed_at (a0_0 : Int) (a0_1 : Int) (a0_2 : ByteArray) (A0_3 : Option Addr) (c0_3 : Nat) (l0_3 : List (S24)) (w : World) (hr0_3 : Kd.C k24 w A0_3 l0_3.length l0_3) (hc0_3 : l0_3.length ≤ c0_3)
    (ih : ∀ x ∈ l0_3, ∀ (A : Option Addr) (c : Nat) (w : World), Kd.C k24 w A x.f3.length x.f3 → x.f3.length ≤ c → Calls Try.prog 24 #[.agg #[.int .i64 x.f0, .int .i64 x.f1, .string x.f2, .slice A x.f3.length c]] w fun e w' => e = .returned (.tuple #[.int .i64 (formedV x).1, .bool (formedV x).2]) ∧ Below w.heap.size w w') :
    Calls Try.prog 24 #[.agg #[.int .i64 a0_0, .int .i64 a0_1, .string a0_2, .slice A0_3 l0_3.length c0_3]] w fun e w' => e = .returned (.tuple #[.int .i64 (formedV ⟨a0_0, a0_1, a0_2, l0_3⟩).1, .bool (formedV ⟨a0_0, a0_1, a0_2, l0_3⟩).2]) ∧ Below w.heap.size w w' := by
  have hu24 := Try.underlying24
  have HR := Aside0.mk hr0_3
  have IH := Aside0.mk ih
  clear hr0_3 ih
  go_enter Try.func24, Try.ntmps24
  go_upto_region 1 with (fail)
  go_cut [4] (fun v4 wc => v4 = .pointer (some ⟨w.heap.size + 1, 0, none⟩) ∧ Aside0 (wc.heap[w.heap.size]? = some (.cells #[.int .i64 a0_0, .int .i64 a0_1, .string a0_2, .slice A0_3 l0_3.length c0_3] 24 (0, 0))) ∧ Aside0 (wc.heap[w.heap.size + 1]? = some (.cells #[.bool false, .bool (a0_2.toList.isEmpty && (l0_3.length : Int) == 0), .bool (a0_1 == 0 && (l0_3.length : Int) == 0), .bool (a0_1 == 0 && a0_2.toList.isEmpty)] 69 (0, 0))) ∧ Aside0 (Below w.heap.size w wc))
  case first =>
    cases e1 : a0_2.toList.isEmpty <;> cases e2 : ((l0_3.length : Int) == 0) <;> cases e3 : (a0_1 == 0)
    all_goals
      go_wp2
      go_meet
    all_goals
      refine ⟨rfl, ⟨blk_alloc (blk_new _ _) _⟩, ⟨?_⟩, ⟨below_alloc (below_alloc (Below.refl _ _) _) _⟩⟩
      have hs : (w.alloc (.cells #[.int .i64 a0_0, .int .i64 a0_1, .string a0_2, .slice A0_3 l0_3.length c0_3] 24)).heap.size = w.heap.size + 1 := by simp
      rw [e1, e2, e3, ← hs]
      exact blk_new _ _
  case rest =>
    obtain ⟨rfl, BK, BA, HB⟩ := hcut
    obtain ⟨u1, E1⟩ : ∃ u, (a0_2.toList.isEmpty && (l0_3.length : Int) == 0) = u := ⟨_, rfl⟩
    obtain ⟨u2, E2⟩ : ∃ u, (a0_1 == 0 && (l0_3.length : Int) == 0) = u := ⟨_, rfl⟩
    obtain ⟨u3, E3⟩ : ∃ u, (a0_1 == 0 && a0_2.toList.isEmpty) = u := ⟨_, rfl⟩
    rw [E1, E2, E3] at BA
    have F1 := Aside0.mk E1
    have F2 := Aside0.mk E2
    have F3 := Aside0.mk E3
    clear E1 E2 E3
    have hz0 : wc.cell? ⟨w.heap.size, 0, none⟩ = some (.int .i64 a0_0) := (blk_cell BK.out 0).trans rfl
    have hz3 : wc.cell? ⟨w.heap.size, 3, none⟩ = some (.slice A0_3 l0_3.length c0_3) := (blk_cell BK.out 3).trans rfl
    have ha1 : wc.cell? ⟨w.heap.size + 1, 1, none⟩ = some (.bool u1) := (blk_cell BA.out 1).trans rfl
    have ha2 : wc.cell? ⟨w.heap.size + 1, 2, none⟩ = some (.bool u2) := (blk_cell BA.out 2).trans rfl
    have ha3 : wc.cell? ⟨w.heap.size + 1, 3, none⟩ = some (.bool u3) := (blk_cell BA.out 3).trans rfl
    by_cases k0 : a0_0 < 1
    · have k0b : decide (a0_0 < 1) = true := decide_eq_true k0
      go_wp2
      go_ret2
      have hf := formedV_not (l := l0_3) (usedV_out a0_0 a0_1 a0_2 l0_3.length (.inl k0))
      exact ⟨by rw [hf]; rfl, HB.out⟩
    by_cases k4 : 3 < a0_0
    · have k0b : decide (a0_0 < 1) = false := decide_eq_false k0
      have k4b : decide (3 < a0_0) = true := decide_eq_true k4
      go_wp2
      go_ret2
      have hf := formedV_not (l := l0_3) (usedV_out a0_0 a0_1 a0_2 l0_3.length (.inr k4))
      exact ⟨by rw [hf]; rfl, HB.out⟩
    have k3 : a0_0 = 1 ∨ a0_0 = 2 ∨ a0_0 = 3 := by omega
    clear k0 k4
    rcases k3 with rfl | rfl | rfl
    · have hu : usedV 1 a0_1 a0_2 l0_3.length = u1 := by rw [← F1.out]; exact usedV_one _ _ _
      cases u1 with
      | false =>
        go_wp2
        go_ret2
        exact ⟨by rw [formedV_not hu]; rfl, HB.out⟩
      | true =>
        go_wp2
        go_ret2
        exact ⟨by rw [formedV_plain hu (by decide)]; rfl, HB.out⟩
    · have hu : usedV 2 a0_1 a0_2 l0_3.length = u2 := by rw [← F2.out]; exact usedV_two _ _ _
      cases u2 with
      | false =>
        go_wp2
        go_ret2
        exact ⟨by rw [formedV_not hu]; rfl, HB.out⟩
      | true =>
        go_wp2
        go_ret2
        exact ⟨by rw [formedV_plain hu (by decide)]; rfl, HB.out⟩
    · have hu : usedV 3 a0_1 a0_2 l0_3.length = u3 := by rw [← F3.out]; exact usedV_three _ _ _
      cases u3 with
      | false =>
        go_wp2
        go_ret2
        exact ⟨by rw [formedV_not hu]; rfl, HB.out⟩
      | true =>
        have hv := Aside0.mk hu
        clear hu
        go_wp2
        go_loopg [2, 57] l0_3.length (fun kq v2 v57 w' => ∃ (i : Int) (d : Int), v2 = .int .i64 d ∧ v57 = .int .i64 i ∧ Aside0 (0 ≤ i ∧ (kq : Int) + i = l0_3.length) ∧ Aside0 (formedL (l0_3.drop i.toNat) d = formedL l0_3 0) ∧ Aside0 (w'.heap[w.heap.size]? = some (.cells #[.int .i64 3, .int .i64 a0_1, .string a0_2, (.slice A0_3 l0_3.length c0_3)] 24 (0, 0))) ∧ Aside0 (Below w.heap.size w w'))
        case atStart => exact ⟨0, 0, rfl, rfl, ⟨by omega⟩, ⟨rfl⟩, BK, HB⟩
        case round =>
          clear hz0 hz3 ha1 ha2 ha3 BA BK HB
          obtain ⟨i, d, rfl, rfl, HI, HF, BK, HB⟩ := hrel
          by_cases hi : i < l0_3.length
          · have hi0 : decide (i < (l0_3.length : Int)) = true := decide_eq_true hi
            have hm := Aside0.mk (rd_mem l0_3 i HI.out.1 hi)
            have hd := Aside0.mk (drop_rd l0_3 i HI.out.1 hi)
            have hw := Aside0.mk (wrap_at i l0_3.length HI.out.1 hi HR.out.2.1)
            obtain ⟨ad, A3, c3, ha, hx0, hx1, hx2, hx3, hl3, hi3⟩ := at_T24 HR.out i HI.out.1 hi
            cases ha
            replace hx0 := (HB.out.cell (World.block_lt_of_cell? w _ hx0)).trans hx0
            replace hx1 := (HB.out.cell (World.block_lt_of_cell? w _ hx1)).trans hx1
            replace hx2 := (HB.out.cell (World.block_lt_of_cell? w _ hx2)).trans hx2
            replace hx3 := (HB.out.cell (World.block_lt_of_cell? w _ hx3)).trans hx3
            have C := Aside0.mk (IH.out _ hm.out A3 c3 (wr.alloc (.cells #[.int .i64 (rd_T24 l0_3 i).f0, .int .i64 (rd_T24 l0_3 i).f1, .string (rd_T24 l0_3 i).f2, .slice A3 (rd_T24 l0_3 i).f3.length c3] 24)) (Kd.C_alloc (Kd.C_below hi3 HB.out) _) hl3)
            have hi1 := eq_true HI.out.1
            replace hi := eq_true hi
            clear hi3 hm
            generalize rd_T24 l0_3 i = x at *
            obtain ⟨xn, xok, hx⟩ : ∃ n ok, formedV x = (n, ok) := ⟨_, _, rfl⟩
            rw [hx] at C
            have hx' := Aside0.mk hx
            clear hx
            cases xok with
            | true =>
              have hF : formedL (l0_3.drop (i + 1).toNat) (if d < xn then xn else d) = formedL l0_3 0 := by
                rw [← HF.out, hd.out, formedL, hx'.out]
              have HF2 := Aside0.mk hF
              clear hF
              by_cases hmx : d < xn
              all_goals
                go_wp2_with ((go_at_call 24; (refine C.out.mono ?_); rintro e w1 ⟨rfl, hb⟩; have BK1 := Aside0.mk (blk_below (blk_alloc BK.out _) hb); have HB1 := Aside0.mk (below_step (below_alloc HB.out _) hb); clear hb))
                go_roundg (gk - 1)
                case measure => have := HI.out; have := of_eq_true hi; omega
                case rel =>
                  refine ⟨i + 1, _, rfl, ?_, ⟨by have := HI.out; have := of_eq_true hi; omega⟩, ?_, BK1, HB1⟩
                  · first | rfl | rw [hw.out]
                  · first | exact ⟨by have := HF2.out; rwa [if_pos hmx] at this⟩ | exact ⟨by have := HF2.out; rwa [if_neg (by omega)] at this⟩
            | false =>
              have hF : formedL l0_3 0 = none := by
                rw [← HF.out, hd.out, formedL, hx'.out]
              have HF2 := Aside0.mk hF
              clear hF
              go_wp2_with ((go_at_call 24; (refine C.out.mono ?_); rintro e w1 ⟨rfl, hb⟩; have BK1 := Aside0.mk (blk_below (blk_alloc BK.out _) hb); have HB1 := Aside0.mk (below_step (below_alloc HB.out _) hb); clear hb))
              go_ret2
              exact ⟨by rw [formedV_none hv.out HF2.out]; rfl, HB1.out⟩
          · have hi0 : decide (i < (l0_3.length : Int)) = false := decide_eq_false hi
            have hF : formedL l0_3 0 = some d := by
              rw [← HF.out, List.drop_eq_nil_of_le (by omega), formedL]
            have HF2 := Aside0.mk hF
            clear hF
            go_wp2
            go_ret2
            exact ⟨by rw [formedV_some hv.out HF2.out]; rfl, HB.out⟩

theorem formed_all : ∀ (n : Nat) (x : S24), SizeOf.sizeOf x < n → ∀ (A : Option Addr) (c : Nat) (w : World), Kd.C k24 w A x.f3.length x.f3 → x.f3.length ≤ c → Calls Try.prog 24 #[.agg #[.int .i64 x.f0, .int .i64 x.f1, .string x.f2, .slice A x.f3.length c]] w fun e w' => e = .returned (.tuple #[.int .i64 (formedV x).1, .bool (formedV x).2]) ∧ Below w.heap.size w w'
  | 0, _, h => absurd h (by omega)
  | n + 1, ⟨k, m, s, l⟩, h => fun A c w hr hc => formed_at k m s A c l w hr hc fun x hx => formed_all n x (by have h1 := List.sizeOf_lt_of_mem hx; have h2 : SizeOf.sizeOf (S24.mk k m s l) = 1 + SizeOf.sizeOf k + SizeOf.sizeOf m + SizeOf.sizeOf s + SizeOf.sizeOf l := (by simp); omega)

theorem codec_formed.calls (a0_0 : Int) (a0_1 : Int) (a0_2 : ByteArray) (A0_3 : Option Addr) (c0_3 : Nat) (l0_3 : List (S24)) (r1 : Int) (r2 : Bool) (w : World) (hr0_3 : Kd.C k24 w A0_3 l0_3.length l0_3) (hc0_3 : l0_3.length ≤ c0_3) (h : codec_formed.f a0_0 a0_1 a0_2 l0_3 = some (r1, r2)) :
    Calls Try.prog 24 #[.agg #[.int .i64 a0_0, .int .i64 a0_1, .string a0_2, .slice A0_3 l0_3.length c0_3]] w fun e w' => e = .returned (.tuple #[.int .i64 r1, .bool r2]) ∧ Below w.heap.size w w' := by
  have h2 := Option.some.inj h
  have := formed_all _ ⟨a0_0, a0_1, a0_2, l0_3⟩ (Nat.lt_succ_self _) A0_3 c0_3 w hr0_3 hc0_3
  rw [h2] at this
  exact this
end Go.Proofs.Ytgnkjhppfenmaaa.Q
namespace Go.Proofs.Ytgnkjhppfenmaaa.Q
open Go.RowKit Go.Proofs.YtgnkjhppfenmaaaW.PrintWords Go.Proofs.YtgnkjhppfenmaaaW.PrintLast Go.Proofs.YtgnkjhppfenmaaaW.PrintMore
attribute [local go_sem] max2_int min2_int max_two min_two max_three min_three max_four min_four   -- for this text's walks alone
set_option linter.unusedVariables false
set_option linter.unusedSimpArgs false

/-! ### codec_newWriter_1: function 33 -/
def codec_newWriter_1.f (k : Nat) (l0 : List Int) (a1_0 : Int) (a1_1 : Int) (a1_2 : ByteArray) (l1_3 : List (S24)) : Option (List Int) := if l0.length < 140737488355328 then ((codec_unsigned.f a1_1).bind fun t105 => ((codec_numeral.f k (l0 ++ [1]) t105).bind fun t106 => (some t106))) else (none)
theorem codec_newWriter_1.mono : ∀ a0 a1 a2 a3 a4 k, LeO (codec_newWriter_1.f k a0 a1 a2 a3 a4) (codec_newWriter_1.f (k + 1) a0 a1 a2 a3 a4) := by
  intro a0 a1 a2 a3 a4 k
  unfold codec_newWriter_1.f
  repeat' first
      | (with_reducible exact codec_numeral.mono _ _ _)
      | (with_reducible exact LeO.refl _)
      | (with_reducible exact LeO.none _)
      | (with_reducible refine LeO.ite ?_ ?_)
      | (with_reducible refine LeO.bind ?_ (fun _ => ?_))
      | exact codec_numeral.mono _ _ _
      | exact LeO.none _
      | refine LeO.ite ?_ ?_
      | refine LeO.bind ?_ (fun _ => ?_)
def codec_newWriter_1.T1 : Bool × List (List Nat × List Nat) := (true, [([], []), ([], []), ([0, 1], [0, 1]), ([], []), ([3], [3]), ([4, 2], [4]), ([2, 5, 5], [2, 5]), ([6, 6, 0, 1, 2, 3, 4, 5, 6], [6])])
def codec_newWriter_1.B1 : List Nat := [0, 0, 3, 0, 8, 31, 63, 127]
theorem codec_newWriter_1.tab1 : rtab .any (opsOf Try.f33 1) = codec_newWriter_1.T1 := by kernel_rfl
theorem codec_newWriter_1.bits1 : waitsOk codec_newWriter_1.T1.2 codec_newWriter_1.B1 = true := by kernel_rfl
set_option maxHeartbeats 8000000 in
set_option maxRecDepth 100000 in
theorem codec_newWriter_1.calls (k : Nat) (P0_ : Nat → Prop) (u9000_ : Value) (l0 : List Int) (a1_0 : Int) (a1_1 : Int) (a1_2 : ByteArray) (A1_3 : Option Addr) (c1_3 : Nat) (l1_3 : List (S24)) (r : List Int) (w0 w : World) (hB : Below w0.heap.size w0 w) (ho0 : Kd.R (Kd.int .u8) 5 w w0.heap.size P0_ u9000_ l0) (hr1_3 : ∀ W_, Kept w W_ (fun k_ => P0_ k_) → Kd.C k24 W_ A1_3 l1_3.length l1_3) (hc1_3 : l1_3.length ≤ c1_3) (h : codec_newWriter_1.f k l0 a1_0 a1_1 a1_2 l1_3 = some r) :
    Calls Try.prog 33 #[u9000_, .agg #[.int .i64 a1_0, .int .i64 a1_1, .string a1_2, .slice A1_3 l1_3.length c1_3]] w fun e w' => ∃ v0_ : Value, e = .returned (v0_) ∧ Kd.R (Kd.int .u8) 5 w' w0.heap.size (fun k_ => (P0_ k_ ∨ w.heap.size ≤ k_)) v0_ r ∧ Below w0.heap.size w0 w' ∧ Kept w w' (fun k_ => P0_ k_) := by
  have hu24 := Try.underlying24
  have HO0 := Aside0.mk (show Kd.R (Kd.int .u8) 5 w w0.heap.size (fun k_ => (P0_ k_ ∨ w.heap.size ≤ k_)) u9000_ l0 from Kd.R_mono ho0 (fun k_ hk => (.inl hk)))
  have HR1_3 := Aside0.mk hr1_3
  have HC1_3 := Aside0.mk hc1_3
  clear hr1_3 hc1_3
  have HK := Aside0.mk (Kept.refl w (fun k_ => P0_ k_))
  have HW0 := Aside0.mk hB.size
  have HB := Aside0.mk hB
  clear hB
  have H : (if l0.length < 140737488355328 then ((codec_unsigned.f a1_1).bind fun t105 => ((codec_numeral.f k (l0 ++ [1]) t105).bind fun t106 => (some t106))) else (none)) = some r := h
  clear h
  by_cases c3 : l0.length < 140737488355328
  · rw [if_pos c3] at H
    have LMc3 := Aside0.mk c3
    clear c3
    obtain ⟨y102, hy102⟩ : ∃ y_ : List Int, y_ = (l0 ++ [1]) := ⟨_, rfl⟩
    replace H : ((codec_unsigned.f a1_1).bind fun t105 => ((codec_numeral.f k y102 t105).bind fun t106 => (some t106))) = some r := by first | (rw [hy102]; with_reducible exact H) | (have H2_ := (Option.bind_some _ _).symm.trans H; rw [hy102]; with_reducible exact H2_) | (have H2_ := (Option.bind_some _ _).symm.trans H; with_reducible exact H2_) | with_reducible exact H | (rw [hy102]; exact H) | exact H
    have Ny102 := Aside0.mk hy102
    clear hy102
    replace H := Option.bind_eq_some_iff.mp H
    obtain ⟨t105, A40, H⟩ := H
    replace H : ((codec_numeral.f k y102 t105).bind fun t106 => (some t106)) = some r := H
    have A4 := Aside0.mk A40
    clear A40
    replace H := Option.bind_eq_some_iff.mp H
    obtain ⟨t106, A50, H⟩ := H
    replace H : (some t106) = some r := H
    have A5 := Aside0.mk A50
    clear A50
    obtain rfl := Option.some.inj H
    go_enter Try.func33, Try.ntmps33
    try go_wp2_with (first | ((with_reducible refine gate_dst (N := 3) rfl ?_); refine box_event ?hg (N := 3) ?hd (cs := #[.int .i64 a1_0, .int .i64 a1_1, .string a1_2, .slice A1_3 l1_3.length c1_3]) (t := 24) ?hr ?_; (case hd => rfl); (case hg => rfl); (case hr => first | (go_simp; done) | (go_simp; rfl)); intro gb101 hg w6 hbox hb; have n0_ := Aside0.mk (Kd.R_below (by (with_reducible repeat (first | apply Kd.R_alloc | apply Kd.R_drewN | apply Kd.R_drew)); exact HO0.out) hb); have n1_ := Aside0.mk (Kept.below (S := (fun k_ => P0_ k_)) (by repeat (first | (with_reducible first | exact HK.out | apply Kept.alloc | apply Kept.drewN | apply Kept.drew) | exact HK.out)) hb); have n2_ := Aside0.mk (below_step (by repeat (first | (with_reducible first | exact HB.out | apply below_alloc | apply pw_below_drewN | apply below_drew1) | exact HB.out)) hb); have n3_ := Aside0.mk (hbox); have n4_ := Aside0.mk ((by rw [hg]; exact (by first | exact HK.out.1 | exact (show Kept w _ (fun k_ => P0_ k_) from by repeat (first | (with_reducible first | exact HK.out | apply Kept.alloc | apply Kept.drewN | apply Kept.drew) | exact HK.out)).1) : w.heap.size ≤ gb101)); have n5_ := Aside0.mk ((by rw [hg]; exact (below_size (by repeat (first | (with_reducible first | exact HB.out | apply below_alloc | apply pw_below_drewN | apply below_drew1) | exact HB.out))) : w0.heap.size ≤ gb101)); clear HO0; clear HK; clear HB; have HO0 := n0_; have HK := n1_; have HB := n2_; have BK101 := n3_; have GW101 := n4_; have GE101 := n5_; clear n0_ n1_ n2_ n3_ n4_ n5_; clear hb hbox hg))
    have n0_ := Aside0.mk (Kd.R_drew HO0.out)
    have n1_ := Aside0.mk (blk_drew BK101.out)
    have n2_ := Aside0.mk (Kept.drew HK.out)
    have n3_ := Aside0.mk (below_drew1 HB.out)
    clear HO0
    clear BK101
    clear HK
    clear HB
    have HO0 := n0_
    have BK101 := n1_
    have HK := n2_
    have HB := n3_
    clear n0_ n1_ n2_ n3_
    refine start_ (n := 8) (S := fun w' => w'.cell? ⟨gb101, 0, none⟩ = some (.int .i64 a1_0) ∧ w'.cell? ⟨gb101, 1, none⟩ = some (.int .i64 a1_1) ∧ w'.cell? ⟨gb101, 2, none⟩ = some (.string a1_2) ∧ w'.cell? ⟨gb101, 3, none⟩ = some (.slice A1_3 l1_3.length c1_3)) (ds := []) #[false, false, false, false, false, false, false, false] (by kernel_rfl) rfl rfl ⟨(blk_cell BK101.out 0).trans rfl, (blk_cell BK101.out 1).trans rfl, (blk_cell BK101.out 2).trans rfl, (blk_cell BK101.out 3).trans rfl⟩ (fun hHeld => ?_); refine with_tabW codec_newWriter_1.tab1 codec_newWriter_1.bits1 (fun HT_ HW_ => ?_)
    generalize w6.drew = w7 at HO0 BK101 HK HB hHeld ⊢
    refine pure_ (i := 0) (N := some 5) (v := ?_) (a' := ?_) #[true, false, false, false, false, false, false, false] rfl rfl (any_of HT_.out (by kernel_rfl)) (fun _ _ _ h => h) (Or.inl ⟨by rfl, ?_⟩) ?_ ?_
    rotate_left
    · intro w'
      go_simp
      with_reducible rfl
    rotate_left
    · simp only [Act.put, List.setIfInBounds_toArray, List.set_cons_zero, List.set_cons_succ, i64_w, i32_w]
      rfl
    refine pure_ (i := 3) (N := some 8) (v := ?_) (a' := ?_) #[true, false, false, true, false, false, false, false] rfl rfl (any_of HT_.out (by kernel_rfl)) (fun _ _ _ h => h) (Or.inl ⟨by rfl, ?_⟩) ?_ ?_
    rotate_left
    · intro w'
      go_simp
      with_reducible rfl
    rotate_left
    · simp only [Act.put, List.setIfInBounds_toArray, List.set_cons_zero, List.set_cons_succ, i64_w, i32_w]
      rfl
    refine take_ (i := 4) (N := some 9) (v := ?_) (a' := ?_) #[true, false, false, true, true, false, false, false] rfl rfl (take_ofW HT_.out HW_.out (by kernel_rfl)) (fun _ _ _ h => h) (Or.inl ⟨by rfl, ?_⟩) hHeld ?_ ?_
    rotate_left
    · rintro w' ⟨s0, s1, s2, s3⟩
      go_simp
      with_reducible rfl
    rotate_left
    · simp only [Act.put, List.setIfInBounds_toArray, List.set_cons_zero, List.set_cons_succ, i64_w, i32_w]
      rfl
    refine one_ (i := 1) (N := some 6) #[true, true, false, true, true, false, false, false] rfl rfl (one_of HT_.out (by kernel_rfl)) (by decide) (fun K hK => ?_)
    refine value_ (w1 := ?_) (v := ?_) (by rfl) rfl ?_ ?_
    rotate_left 2
    · go_simp
      constructor
      · rfl
      · rfl
    refine hK.out _ _ ⟨(blk_cell (blk_alloc BK101.out _) 0).trans rfl, (blk_cell (blk_alloc BK101.out _) 1).trans rfl, (blk_cell (blk_alloc BK101.out _) 2).trans rfl, (blk_cell (blk_alloc BK101.out _) 3).trans rfl⟩ (fun hHeld => ?_)
    clear hK K
    refine norm_ (a' := ?_) ?_ ?_
    rotate_left
    · show Act.put _ (some 6) _ = _
      simp only [Act.put, List.setIfInBounds_toArray, List.set_cons_zero, List.set_cons_succ, i64_w, i32_w]
      rfl
    refine one_ (i := 2) (N := some 7) #[true, true, true, true, true, false, false, false] rfl rfl (one_of HT_.out (by kernel_rfl)) (by decide) (fun K hK => ?_)
    refine Kd.R_append_step (Kd.int .u8) (w0 := w0) w0.heap.size (by rfl) (.tmp 5) (.tmp 6) 27 5 (.int .u8 0) 1 rfl Try.underlying27 info5 rfl (by decide) (by omega) u9000_ l0 1 [.int .u8 1] (fun k_ => (P0_ k_ ∨ w.heap.size ≤ k_)) (fun _ => False) rfl rfl ?aP (fun _ hk => hk.elim) ?aF ?aO ?aB ?aS ?aL ?_
    (case aP => exact rfl)
    (case aB => exact (by repeat (first | (with_reducible first | exact HB.out | apply below_alloc | apply pw_below_drewN | apply below_drew1 | refine below_set ?_ GE101.out) | exact HB.out)))
    (case aF => exact (fun k_ hk => (.inr (Nat.le_trans (by first | exact HK.out.1 | exact (show Kept w _ (fun k_ => P0_ k_) from by repeat (first | (with_reducible first | exact HK.out | apply Kept.alloc | apply Kept.drewN | apply Kept.drew | refine Kept.setCell ?_ (.inr GW101.out) _) | exact HK.out)).1) hk))))
    (case aO => exact (by (with_reducible repeat (first | apply Kd.R_alloc | apply Kd.R_drewN | apply Kd.R_drew)); exact HO0.out))
    (case aS => exact (below_size (by repeat (first | (with_reducible first | exact HB.out | apply below_alloc | apply pw_below_drewN | apply below_drew1 | refine below_set ?_ GE101.out) | exact HB.out))))
    (case aL => have := LMc3.out; omega)
    intro v103 w8 ho hb hg hat
    rw [← Ny102.out] at ho
    have n0_ := Aside0.mk (blk_grown (g := gb101) (o := .cells #[.int .i64 a1_0, .int .i64 a1_1, .string a1_2, .slice A1_3 l1_3.length c1_3] 24 (0, 0)) (by (with_reducible repeat (first | refine blk_drewN ?_ _ | refine blk_drew ?_ | refine blk_alloc ?_ _)); exact BK101.out) hg (Kd.R_ne HO0.out BK101.out (by decide)))
    have n1_ := Aside0.mk (hb)
    have n2_ := Aside0.mk (Kept.of_grown (S := (fun k_ => P0_ k_)) hg (by repeat (first | (with_reducible first | exact HK.out | apply Kept.alloc | apply Kept.drewN | apply Kept.drew | refine Kept.setCell ?_ (.inr GW101.out) _) | exact HK.out)) (fun k_ e_ => (HO0.out.1 k_ e_)))
    have n3_ := Aside0.mk (ho)
    clear BK101
    clear HB
    clear HK
    clear HO0
    have BK101 := n0_
    have HB := n1_
    have HK := n2_
    have HO104 := n3_
    clear n0_ n1_ n2_ n3_
    clear ho hb hg hat
    refine hK.out _ _ ⟨(blk_cell BK101.out 0).trans rfl, (blk_cell BK101.out 1).trans rfl, (blk_cell BK101.out 2).trans rfl, (blk_cell BK101.out 3).trans rfl⟩ (fun hHeld => ?_)
    clear hK K
    refine norm_ (a' := ?_) ?_ ?_
    rotate_left
    · show Act.put _ (some 7) _ = _
      simp only [Act.put, List.setIfInBounds_toArray, List.set_cons_zero, List.set_cons_succ, i64_w, i32_w]
      rfl
    refine one_ (i := 5) (N := some 10) #[true, true, true, true, true, true, false, false] rfl rfl (one_of HT_.out (by kernel_rfl)) (by decide) (fun K hK => ?_)
    refine goes_ Try.func35 (by kernel_rfl) rfl #[.int .i64 a1_1] (by rfl) rfl rfl (by (try simp only [List.map_toArray, List.map_cons, List.map_nil]); first | done | rfl | (simp only [List.length_drop, List.length_take]; rfl)) ?_
    with_reducible refine (codec_unsigned.calls a1_1 t105 _ A4.out).mono ?_
    rintro e w' ⟨rfl, ⟨nd, rfl⟩⟩
    refine ⟨_, rfl, ?_⟩
    obtain ⟨Ao9, co9, eo9⟩ := Kd.R_slice HO104.out
    (first | subst eo9 | (injection eo9 with f1_ f2_ f3_; have f4_ := f1_.symm; have f5_ := f3_.symm; clear f1_ f2_ f3_; subst f4_; subst f5_))
    refine hK.out _ _ ⟨(blk_cell BK101.out 0).trans rfl, (blk_cell BK101.out 1).trans rfl, (blk_cell BK101.out 2).trans rfl, (blk_cell BK101.out 3).trans rfl⟩ (fun hHeld => ?_)
    clear hK K
    refine norm_ (a' := ?_) ?_ ?_
    rotate_left
    · show Act.put _ (some 10) _ = _
      simp only [Act.put, List.setIfInBounds_toArray, List.set_cons_zero, List.set_cons_succ, i64_w, i32_w]
      rfl
    refine one_ (i := 6) (N := some 11) #[true, true, true, true, true, true, true, false] rfl rfl (one_of HT_.out (by kernel_rfl)) (by decide) (fun K hK => ?_)
    refine goes_ Try.func34 (by kernel_rfl) rfl #[.slice Ao9 y102.length co9, .int .u64 t105] (by rfl) rfl rfl (by (try simp only [List.map_toArray, List.map_cons, List.map_nil]); first | done | rfl | (simp only [List.length_drop, List.length_take]; rfl)) ?_
    with_reducible refine (codec_numeral.calls k (fun k_ => some k_ = (.slice Ao9 y102.length co9 : Value).ownBlock) (.slice Ao9 y102.length co9) y102 t105 t106 w0 _ ?side1 ?side2 A5.out).mono ?_
    (case side1 => repeat (first | (with_reducible first | exact HB.out | apply below_alloc | apply pw_below_drewN | apply below_drew1 | refine below_set ?_ GE101.out) | exact HB.out))
    (case side2 => exact Kd.R_tight rfl HO104.out)
    rintro e w10 ⟨v107, rfl, ho0, hb, hkp⟩
    refine ⟨_, rfl, ?_⟩
    have n0_ := Aside0.mk (blk_kept (by (with_reducible repeat (first | refine blk_drewN ?_ _ | refine blk_drew ?_ | refine blk_alloc ?_ _)); exact BK101.out) hkp (fun hs_ => (fun e_ => (Kd.R_ne HO104.out BK101.out (by decide)) e_) hs_))
    have n1_ := Aside0.mk (Kd.R_mono (ok' := fun k_ => (P0_ k_ ∨ w.heap.size ≤ k_)) ho0 (fun k_ hk_ => Or.elim hk_ (fun hs_ => (HO104.out.1 k_ (hs_).symm)) (fun hn_ => (.inr (Nat.le_trans (by first | exact HK.out.1 | exact (show Kept w _ (fun k_ => P0_ k_) from by repeat (first | (with_reducible first | exact HK.out | apply Kept.alloc | apply Kept.drewN | apply Kept.drew | refine Kept.setCell ?_ (.inr GW101.out) _) | exact HK.out)).1) hn_)))))
    have n2_ := Aside0.mk (Kept.then_ (S := (fun k_ => P0_ k_)) (by repeat (first | (with_reducible first | exact HK.out | apply Kept.alloc | apply Kept.drewN | apply Kept.drew | refine Kept.setCell ?_ (.inr GW101.out) _) | exact HK.out)) hkp (fun k_ hs_ => (fun e_ => (HO104.out.1 k_ e_.symm)) hs_))
    have n3_ := Aside0.mk (hb)
    clear BK101
    clear HK
    clear HB
    clear HO104
    have BK101 := n0_
    have HO108 := n1_
    have HK := n2_
    have HB := n3_
    clear n0_ n1_ n2_ n3_
    (try clear hb)
    (try clear hkp)
    (try clear ho0)
    refine hK.out _ _ ⟨(blk_cell BK101.out 0).trans rfl, (blk_cell BK101.out 1).trans rfl, (blk_cell BK101.out 2).trans rfl, (blk_cell BK101.out 3).trans rfl⟩ (fun hHeld => ?_)
    clear hK K
    refine norm_ (a' := ?_) ?_ ?_
    rotate_left
    · show Act.put _ (some 11) _ = _
      simp only [Act.put, List.setIfInBounds_toArray, List.set_cons_zero, List.set_cons_succ, i64_w, i32_w]
      rfl
    refine pure_ (i := 7) (N := some 4) (v := ?_) (a' := ?_) #[true, true, true, true, true, true, true, true] rfl rfl (any_of HT_.out (by kernel_rfl)) (fun _ _ _ h => h) (Or.inl ⟨by rfl, ?_⟩) ?_ ?_
    rotate_left
    · intro w'
      go_simp
      with_reducible rfl
    rotate_left
    · simp only [Act.put, List.setIfInBounds_toArray, List.set_cons_zero, List.set_cons_succ, i64_w, i32_w]
      rfl
    refine done_ (done_of HT_.out (by kernel_rfl)) ?_
    try go_wp2
    go_ret
    exact ⟨_, by first | rfl | (simp [errW_none, errW_some] <;> rfl) | (simp [*, errW_none, errW_some] <;> rfl), by (with_reducible repeat (first | apply Kd.R_alloc | apply Kd.R_drewN | apply Kd.R_drew)); exact HO108.out, by repeat (first | (with_reducible first | exact HB.out | apply below_alloc | apply pw_below_drewN | apply below_drew1 | refine below_set ?_ GE101.out) | exact HB.out), by repeat (first | (with_reducible first | exact HK.out | apply Kept.alloc | apply Kept.drewN | apply Kept.drew | refine Kept.setCell ?_ (.inr GW101.out) _) | exact HK.out)⟩
  · rw [if_neg c3] at H
    exact absurd H (by simp)

end Go.Proofs.Ytgnkjhppfenmaaa.Q
namespace Go.Proofs.Ytgnkjhppfenmaaa.Q
open Go.RowKit Go.Proofs.YtgnkjhppfenmaaaW.PrintWords Go.Proofs.YtgnkjhppfenmaaaW.PrintLast Go.Proofs.YtgnkjhppfenmaaaW.PrintMore
attribute [local go_sem] max2_int min2_int max_two min_two max_three min_three max_four min_four   -- for this text's walks alone
set_option linter.unusedVariables false
set_option linter.unusedSimpArgs false

/-! ### codec_Check: function 12 -/
def codec_Check.f (a0_0 : Int) (a0_1 : Int) (a0_2 : ByteArray) (l0_3 : List (S24)) : Option (Int) := (codec_formed.f a0_0 a0_1 a0_2 l0_3).bind fun bt102 => (if bt102.2 = true then (if bt102.1 > 16 then (some 2) else (some 0)) else (some 1))
set_option maxHeartbeats 8000000 in
set_option maxRecDepth 100000 in
theorem codec_Check.calls (a0_0 : Int) (a0_1 : Int) (a0_2 : ByteArray) (A0_3 : Option Addr) (c0_3 : Nat) (l0_3 : List (S24)) (r : Int) (w : World) (hr0_3 : Kd.C k24 w A0_3 l0_3.length l0_3) (hc0_3 : l0_3.length ≤ c0_3) (h : codec_Check.f a0_0 a0_1 a0_2 l0_3 = some r) :
    Calls Try.prog 12 #[.agg #[.int .i64 a0_0, .int .i64 a0_1, .string a0_2, .slice A0_3 l0_3.length c0_3]] w fun e w' => e = .returned (.int .i64 r) ∧ Below w.heap.size w w' := by
  have hu24 := Try.underlying24
  have HR0_3 := Aside0.mk hr0_3
  have HC0_3 := Aside0.mk hc0_3
  clear hr0_3 hc0_3
  have HB := Aside0.mk (Below.refl w.heap.size w)
  have H : ((codec_formed.f a0_0 a0_1 a0_2 l0_3).bind fun bt102 => (if bt102.2 = true then (if bt102.1 > 16 then (some 2) else (some 0)) else (some 1))) = some r := h
  clear h
  replace H := Option.bind_eq_some_iff.mp H
  obtain ⟨⟨t102, t103⟩, A20, H⟩ := H
  replace H : (if t103 = true then (if t102 > 16 then (some 2) else (some 0)) else (some 1)) = some r := H
  have A2 := Aside0.mk A20
  clear A20
  by_cases c3 : t103 = true
  · subst c3
    have H1 : (if t102 > 16 then (some 2) else (some 0)) = some r := by rw [if_pos rfl] at H; exact H
    clear H
    have H := H1
    clear H1
    by_cases c4 : t102 > 16
    · rw [if_pos c4] at H
      have c4b0 : decide (16 < t102) = true := decide_eq_true c4
      clear c4
      obtain rfl := Option.some.inj H
      go_enter Try.func12, Try.ntmps12
      go_wp2_with (first | ((with_reducible refine gate_dst (N := 1) rfl ?_); refine box_event ?hg (N := 1) ?hd (cs := #[.int .i64 a0_0, .int .i64 a0_1, .string a0_2, .slice A0_3 l0_3.length c0_3]) (t := 24) ?hr ?_; (case hd => rfl); (case hg => rfl); (case hr => first | (go_simp; done) | (go_simp; rfl)); intro gb101 hg w5 hbox hb; have n0_ := Aside0.mk (below_step (by repeat (first | (with_reducible first | exact HB.out | apply below_alloc | apply pw_below_drewN | apply below_drew1) | exact HB.out)) hb); have n1_ := Aside0.mk (hbox); have n2_ := Aside0.mk ((by rw [hg]; exact (below_size (by repeat (first | (with_reducible first | exact HB.out | apply below_alloc | apply pw_below_drewN | apply below_drew1) | exact HB.out))) : w.heap.size ≤ gb101)); have n3_ := Aside0.mk ((by rw [hg]; exact (below_size (by repeat (first | (with_reducible first | exact HB.out | apply below_alloc | apply pw_below_drewN | apply below_drew1) | exact HB.out))) : w.heap.size ≤ gb101)); clear HB; have HB := n0_; have BK101 := n1_; have GW101 := n2_; have GE101 := n3_; clear n0_ n1_ n2_ n3_; clear hb hbox hg; have hcz6_0 : w5.cell? ⟨gb101, 0, none⟩ = some (.int .i64 a0_0) := (blk_cell BK101.out 0).trans rfl; have hcz6_1 : w5.cell? ⟨gb101, 1, none⟩ = some (.int .i64 a0_1) := (blk_cell BK101.out 1).trans rfl; have hcz6_2 : w5.cell? ⟨gb101, 2, none⟩ = some (.string a0_2) := (blk_cell BK101.out 2).trans rfl; have hcz6_3 : w5.cell? ⟨gb101, 3, none⟩ = some (.slice A0_3 l0_3.length c0_3) := (blk_cell BK101.out 3).trans rfl; have hfz6_0 := blk_frozen BK101.out 0; have hfz6_1 := blk_frozen BK101.out 1; have hfz6_2 := blk_frozen BK101.out 2; have hfz6_3 := blk_frozen BK101.out 3) | ((with_reducible refine gate_callee (f := 24) rfl ?_); refine goesL_ (some 7) rfl rfl Try.func24 (by kernel_rfl) rfl #[.agg #[.int .i64 a0_0, .int .i64 a0_1, .string a0_2, .slice A0_3 l0_3.length c0_3]] rfl (by (try simp only [List.map_toArray, List.map_cons, List.map_nil]); first | done | rfl | (simp only [List.length_drop, List.length_take]; rfl)) ?_; (with_reducible refine (codec_formed.calls a0_0 a0_1 a0_2 _ _ l0_3 t102 true _ ?side1 ?side2 A2.out).mono ?_); (case side1 => repeat (first | exact (Kd.C_below HR0_3.out HB.out) | (with_reducible refine Kd.C_alloc ?_ _) | (with_reducible refine Kd.C_drewN ?_ _) | (with_reducible refine Kd.C_drew ?_))); (case side2 => exact HC0_3.out); rintro e w7 ⟨rfl, hb⟩; refine ⟨_, rfl, ?_⟩; have n0_ := Aside0.mk (blk_below (g := gb101) (o := .cells #[.int .i64 a0_0, .int .i64 a0_1, .string a0_2, .slice A0_3 l0_3.length c0_3] 24 (0, 0)) (by (with_reducible repeat (first | refine blk_drewN ?_ _ | refine blk_drew ?_ | refine blk_alloc ?_ _)); exact BK101.out) hb); have n1_ := Aside0.mk (below_step (by repeat (first | (with_reducible first | exact HB.out | apply below_alloc | apply pw_below_drewN | apply below_drew1 | refine below_set ?_ GE101.out) | exact HB.out)) hb); clear BK101; clear HB; have BK101 := n0_; have HB := n1_; clear n0_ n1_; (try clear hb); (try clear hb2); (try clear hk); (try clear hi)))
      go_ret
      exact ⟨by first | rfl | (simp [errW_none, errW_some] <;> rfl) | (simp [*, errW_none, errW_some] <;> rfl), by repeat (first | (with_reducible first | exact HB.out | apply below_alloc | apply pw_below_drewN | apply below_drew1 | refine below_set ?_ GE101.out) | exact HB.out)⟩
    · rw [if_neg c4] at H
      have c4b0 : decide (16 < t102) = false := decide_eq_false c4
      clear c4
      obtain rfl := Option.some.inj H
      go_enter Try.func12, Try.ntmps12
      go_wp2_with (first | ((with_reducible refine gate_dst (N := 1) rfl ?_); refine box_event ?hg (N := 1) ?hd (cs := #[.int .i64 a0_0, .int .i64 a0_1, .string a0_2, .slice A0_3 l0_3.length c0_3]) (t := 24) ?hr ?_; (case hd => rfl); (case hg => rfl); (case hr => first | (go_simp; done) | (go_simp; rfl)); intro gb101 hg w8 hbox hb; have n0_ := Aside0.mk (below_step (by repeat (first | (with_reducible first | exact HB.out | apply below_alloc | apply pw_below_drewN | apply below_drew1) | exact HB.out)) hb); have n1_ := Aside0.mk (hbox); have n2_ := Aside0.mk ((by rw [hg]; exact (below_size (by repeat (first | (with_reducible first | exact HB.out | apply below_alloc | apply pw_below_drewN | apply below_drew1) | exact HB.out))) : w.heap.size ≤ gb101)); have n3_ := Aside0.mk ((by rw [hg]; exact (below_size (by repeat (first | (with_reducible first | exact HB.out | apply below_alloc | apply pw_below_drewN | apply below_drew1) | exact HB.out))) : w.heap.size ≤ gb101)); clear HB; have HB := n0_; have BK101 := n1_; have GW101 := n2_; have GE101 := n3_; clear n0_ n1_ n2_ n3_; clear hb hbox hg; have hcz9_0 : w8.cell? ⟨gb101, 0, none⟩ = some (.int .i64 a0_0) := (blk_cell BK101.out 0).trans rfl; have hcz9_1 : w8.cell? ⟨gb101, 1, none⟩ = some (.int .i64 a0_1) := (blk_cell BK101.out 1).trans rfl; have hcz9_2 : w8.cell? ⟨gb101, 2, none⟩ = some (.string a0_2) := (blk_cell BK101.out 2).trans rfl; have hcz9_3 : w8.cell? ⟨gb101, 3, none⟩ = some (.slice A0_3 l0_3.length c0_3) := (blk_cell BK101.out 3).trans rfl; have hfz9_0 := blk_frozen BK101.out 0; have hfz9_1 := blk_frozen BK101.out 1; have hfz9_2 := blk_frozen BK101.out 2; have hfz9_3 := blk_frozen BK101.out 3) | ((with_reducible refine gate_callee (f := 24) rfl ?_); refine goesL_ (some 7) rfl rfl Try.func24 (by kernel_rfl) rfl #[.agg #[.int .i64 a0_0, .int .i64 a0_1, .string a0_2, .slice A0_3 l0_3.length c0_3]] rfl (by (try simp only [List.map_toArray, List.map_cons, List.map_nil]); first | done | rfl | (simp only [List.length_drop, List.length_take]; rfl)) ?_; (with_reducible refine (codec_formed.calls a0_0 a0_1 a0_2 _ _ l0_3 t102 true _ ?side1 ?side2 A2.out).mono ?_); (case side1 => repeat (first | exact (Kd.C_below HR0_3.out HB.out) | (with_reducible refine Kd.C_alloc ?_ _) | (with_reducible refine Kd.C_drewN ?_ _) | (with_reducible refine Kd.C_drew ?_))); (case side2 => exact HC0_3.out); rintro e w10 ⟨rfl, hb⟩; refine ⟨_, rfl, ?_⟩; have n0_ := Aside0.mk (blk_below (g := gb101) (o := .cells #[.int .i64 a0_0, .int .i64 a0_1, .string a0_2, .slice A0_3 l0_3.length c0_3] 24 (0, 0)) (by (with_reducible repeat (first | refine blk_drewN ?_ _ | refine blk_drew ?_ | refine blk_alloc ?_ _)); exact BK101.out) hb); have n1_ := Aside0.mk (below_step (by repeat (first | (with_reducible first | exact HB.out | apply below_alloc | apply pw_below_drewN | apply below_drew1 | refine below_set ?_ GE101.out) | exact HB.out)) hb); clear BK101; clear HB; have BK101 := n0_; have HB := n1_; clear n0_ n1_; (try clear hb); (try clear hb2); (try clear hk); (try clear hi)))
      go_ret
      exact ⟨by first | rfl | (simp [errW_none, errW_some] <;> rfl) | (simp [*, errW_none, errW_some] <;> rfl), by repeat (first | (with_reducible first | exact HB.out | apply below_alloc | apply pw_below_drewN | apply below_drew1 | refine below_set ?_ GE101.out) | exact HB.out)⟩
  · replace c3 := Bool.eq_false_iff.mpr c3
    subst c3
    have H1 : (some 1) = some r := by rw [if_neg (show ¬ (false = true) by decide)] at H; exact H
    clear H
    have H := H1
    clear H1
    obtain rfl := Option.some.inj H
    go_enter Try.func12, Try.ntmps12
    go_wp2_with (first | ((with_reducible refine gate_dst (N := 1) rfl ?_); refine box_event ?hg (N := 1) ?hd (cs := #[.int .i64 a0_0, .int .i64 a0_1, .string a0_2, .slice A0_3 l0_3.length c0_3]) (t := 24) ?hr ?_; (case hd => rfl); (case hg => rfl); (case hr => first | (go_simp; done) | (go_simp; rfl)); intro gb101 hg w11 hbox hb; have n0_ := Aside0.mk (below_step (by repeat (first | (with_reducible first | exact HB.out | apply below_alloc | apply pw_below_drewN | apply below_drew1) | exact HB.out)) hb); have n1_ := Aside0.mk (hbox); have n2_ := Aside0.mk ((by rw [hg]; exact (below_size (by repeat (first | (with_reducible first | exact HB.out | apply below_alloc | apply pw_below_drewN | apply below_drew1) | exact HB.out))) : w.heap.size ≤ gb101)); have n3_ := Aside0.mk ((by rw [hg]; exact (below_size (by repeat (first | (with_reducible first | exact HB.out | apply below_alloc | apply pw_below_drewN | apply below_drew1) | exact HB.out))) : w.heap.size ≤ gb101)); clear HB; have HB := n0_; have BK101 := n1_; have GW101 := n2_; have GE101 := n3_; clear n0_ n1_ n2_ n3_; clear hb hbox hg; have hcz12_0 : w11.cell? ⟨gb101, 0, none⟩ = some (.int .i64 a0_0) := (blk_cell BK101.out 0).trans rfl; have hcz12_1 : w11.cell? ⟨gb101, 1, none⟩ = some (.int .i64 a0_1) := (blk_cell BK101.out 1).trans rfl; have hcz12_2 : w11.cell? ⟨gb101, 2, none⟩ = some (.string a0_2) := (blk_cell BK101.out 2).trans rfl; have hcz12_3 : w11.cell? ⟨gb101, 3, none⟩ = some (.slice A0_3 l0_3.length c0_3) := (blk_cell BK101.out 3).trans rfl; have hfz12_0 := blk_frozen BK101.out 0; have hfz12_1 := blk_frozen BK101.out 1; have hfz12_2 := blk_frozen BK101.out 2; have hfz12_3 := blk_frozen BK101.out 3) | ((with_reducible refine gate_callee (f := 24) rfl ?_); refine goesL_ (some 7) rfl rfl Try.func24 (by kernel_rfl) rfl #[.agg #[.int .i64 a0_0, .int .i64 a0_1, .string a0_2, .slice A0_3 l0_3.length c0_3]] rfl (by (try simp only [List.map_toArray, List.map_cons, List.map_nil]); first | done | rfl | (simp only [List.length_drop, List.length_take]; rfl)) ?_; (with_reducible refine (codec_formed.calls a0_0 a0_1 a0_2 _ _ l0_3 t102 false _ ?side1 ?side2 A2.out).mono ?_); (case side1 => repeat (first | exact (Kd.C_below HR0_3.out HB.out) | (with_reducible refine Kd.C_alloc ?_ _) | (with_reducible refine Kd.C_drewN ?_ _) | (with_reducible refine Kd.C_drew ?_))); (case side2 => exact HC0_3.out); rintro e w13 ⟨rfl, hb⟩; refine ⟨_, rfl, ?_⟩; have n0_ := Aside0.mk (blk_below (g := gb101) (o := .cells #[.int .i64 a0_0, .int .i64 a0_1, .string a0_2, .slice A0_3 l0_3.length c0_3] 24 (0, 0)) (by (with_reducible repeat (first | refine blk_drewN ?_ _ | refine blk_drew ?_ | refine blk_alloc ?_ _)); exact BK101.out) hb); have n1_ := Aside0.mk (below_step (by repeat (first | (with_reducible first | exact HB.out | apply below_alloc | apply pw_below_drewN | apply below_drew1 | refine below_set ?_ GE101.out) | exact HB.out)) hb); clear BK101; clear HB; have BK101 := n0_; have HB := n1_; clear n0_ n1_; (try clear hb); (try clear hb2); (try clear hk); (try clear hi)))
    go_ret
    exact ⟨by first | rfl | (simp [errW_none, errW_some] <;> rfl) | (simp [*, errW_none, errW_some] <;> rfl), by repeat (first | (with_reducible first | exact HB.out | apply below_alloc | apply pw_below_drewN | apply below_drew1 | refine below_set ?_ GE101.out) | exact HB.out)⟩

end Go.Proofs.Ytgnkjhppfenmaaa.Q
/- The writers of codec. -/
namespace Go.Proofs.Ytgnkjhppfenmaaa.Q
open Go.RowKit Go.Proofs.YtgnkjhppfenmaaaW.PrintWords Go.Proofs.YtgnkjhppfenmaaaW.PrintLast Go.Proofs.YtgnkjhppfenmaaaW.PrintMore
set_option maxHeartbeats 4000000 in
set_option maxRecDepth 100000 in
theorem write2 (P0_ : Nat → Prop) (u : Value) (l0 : List Int) (k1 n1 : Int) (s : ByteArray) (A : Option Addr) (c : Nat) (l : List S24) (w0 w : World) (hB : Below w0.heap.size w0 w) (ho0 : Kd.R (Kd.int .u8) 5 w w0.heap.size P0_ u l0) (hl : l0.length + (1 + (numL s.size).length + s.size) < 140737488355328) :
    Calls Try.prog 36 #[u, .agg #[.int .i64 k1, .int .i64 n1, .string s, .slice A l.length c]] w fun e w' => ∃ v0_ : Value, e = .returned (v0_) ∧ Kd.R (Kd.int .u8) 5 w' w0.heap.size (fun k_ => (P0_ k_ ∨ w.heap.size ≤ k_)) v0_ (l0 ++ 2 :: (numL s.size ++ bytesOf s)) ∧ Below w0.heap.size w0 w' ∧ Kept w w' (fun k_ => P0_ k_) := by
  have hu24 := Try.underlying24
  have hs47 : (s.size : Int) < 140737488355328 := by omega
  obtain ⟨k, hn⟩ := numeral_ev s.size s.size (l0 ++ [2]) (Nat.le_refl _) (by simp; omega)
  rw [← show IntKind.u64.wrap (s.size : Int) = (s.size : Int) by rw [u64w]; omega] at hn
  have hl3 : (l0 ++ [2] ++ numL s.size).length + s.size ≤ 140737488355328 := by simp; omega
  have HL := Aside0.mk hl
  have HO := Aside0.mk (show Kd.R (Kd.int .u8) 5 w w0.heap.size (fun k_ => (P0_ k_ ∨ w.heap.size ≤ k_)) u l0 from Kd.R_mono ho0 (fun k_ hk => (.inl hk)))
  have HK := Aside0.mk (Kept.refl w (fun k_ => P0_ k_))
  have HB := Aside0.mk hB
  clear hB hl ho0
  go_enter Try.func36, Try.ntmps36
  go_wp2_with ((with_reducible refine gate_dst (N := 3) rfl ?_); refine box_event ?hg (N := 3) ?hd (cs := #[.int .i64 k1, .int .i64 n1, .string s, .slice A l.length c]) (t := 24) ?hr ?_; (case hd => rfl); (case hg => rfl); (case hr => first | (go_simp; done) | (go_simp; rfl)); intro gb hg w5 hbox hb; have HO' := Aside0.mk (Kd.R_below HO.out hb); have HK' := Aside0.mk (Kept.below HK.out hb); have HB' := Aside0.mk (below_step HB.out hb); have BK := Aside0.mk hbox; clear HO HK HB hg hbox hb; have HO := HO'; have HK := HK'; have HB := HB'; clear HO' HK' HB')
  replace HO := Aside0.mk (Kd.R_drew HO.out)
  replace HK := Aside0.mk (Kept.drew HK.out)
  replace HB := Aside0.mk (below_drew1 HB.out)
  replace BK := Aside0.mk (blk_drew BK.out)
  refine start_ (n := 12) (S := fun w' => w'.cell? ⟨gb, 0, none⟩ = some (.int .i64 k1) ∧ w'.cell? ⟨gb, 1, none⟩ = some (.int .i64 n1) ∧ w'.cell? ⟨gb, 2, none⟩ = some (.string s) ∧ w'.cell? ⟨gb, 3, none⟩ = some (.slice A l.length c)) (ds := []) #[false, false, false, false, false, false, false, false, false, false, false, false] (by kernel_rfl) rfl rfl ⟨(blk_cell BK.out 0).trans rfl, (blk_cell BK.out 1).trans rfl, (blk_cell BK.out 2).trans rfl, (blk_cell BK.out 3).trans rfl⟩ (fun hHeld => ?_)
  generalize w5.drew = w6 at HO BK HK HB hHeld ⊢
  refine pure_ (i := 0) (N := some 5) (v := ?_) (a' := ?_) #[true, false, false, false, false, false, false, false, false, false, false, false] rfl rfl (by kernel_rfl) (fun _ _ _ h => h) (Or.inl ⟨by rfl, ?_⟩) ?_ ?_
  rotate_left
  · intro w'
    go_simp
    with_reducible rfl
  rotate_left
  · simp only [Act.put, List.setIfInBounds_toArray, List.set_cons_zero, List.set_cons_succ, i64_w, i32_w]
    rfl
  refine pure_ (i := 3) (N := some 8) (v := ?_) (a' := ?_) #[true, false, false, true, false, false, false, false, false, false, false, false] rfl rfl (by kernel_rfl) (fun _ _ _ h => h) (Or.inl ⟨by rfl, ?_⟩) ?_ ?_
  rotate_left
  · intro w'
    go_simp
    with_reducible rfl
  rotate_left
  · simp only [Act.put, List.setIfInBounds_toArray, List.set_cons_zero, List.set_cons_succ, i64_w, i32_w]
    rfl
  refine take_ (i := 4) (N := some 9) (v := ?_) (a' := ?_) #[true, false, false, true, true, false, false, false, false, false, false, false] rfl rfl (by kernel_rfl) (fun _ _ _ h => h) (Or.inl ⟨by rfl, ?_⟩) hHeld ?_ ?_
  rotate_left
  · rintro w' ⟨s0, s1, s2, s3⟩
    go_simp
    with_reducible rfl
  rotate_left
  · simp only [Act.put, List.setIfInBounds_toArray, List.set_cons_zero, List.set_cons_succ, i64_w, i32_w]
    rfl
  refine pure_ (i := 5) (N := some 10) (v := ?_) (a' := ?_) #[true, false, false, true, true, true, false, false, false, false, false, false] rfl rfl (by kernel_rfl) (fun _ _ _ h => h) (Or.inl ⟨by rfl, ?_⟩) ?_ ?_
  rotate_left
  · intro w'
    go_simp
    with_reducible rfl
  rotate_left
  · simp only [Act.put, List.setIfInBounds_toArray, List.set_cons_zero, List.set_cons_succ, i64_w, i32_w]
    rfl
  refine pure_ (i := 6) (N := some 11) (v := ?_) (a' := ?_) #[true, false, false, true, true, true, true, false, false, false, false, false] rfl rfl (by kernel_rfl) (fun _ _ _ h => h) (Or.inl ⟨by rfl, ?_⟩) ?_ ?_
  rotate_left
  · intro w'
    go_simp
    with_reducible rfl
  rotate_left
  · simp only [Act.put, List.setIfInBounds_toArray, List.set_cons_zero, List.set_cons_succ, i64_w, i32_w]
    rfl
  refine pure_ (i := 8) (N := some 13) (v := ?_) (a' := ?_) #[true, false, false, true, true, true, true, false, true, false, false, false] rfl rfl (by kernel_rfl) (fun _ _ _ h => h) (Or.inl ⟨by rfl, ?_⟩) ?_ ?_
  rotate_left
  · intro w'
    go_simp
    with_reducible rfl
  rotate_left
  · simp only [Act.put, List.setIfInBounds_toArray, List.set_cons_zero, List.set_cons_succ, i64_w, i32_w]
    rfl
  refine take_ (i := 9) (N := some 14) (v := ?_) (a' := ?_) #[true, false, false, true, true, true, true, false, true, true, false, false] rfl rfl (by kernel_rfl) (fun _ _ _ h => h) (Or.inl ⟨by rfl, ?_⟩) hHeld ?_ ?_
  rotate_left
  · rintro w' ⟨s0, s1, s2, s3⟩
    go_simp
    with_reducible rfl
  rotate_left
  · simp only [Act.put, List.setIfInBounds_toArray, List.set_cons_zero, List.set_cons_succ, i64_w, i32_w]
    rfl
  refine one_ (i := 1) (N := some 6) #[true, true, false, true, true, true, true, false, true, true, false, false] rfl rfl (by kernel_rfl) (by decide) (fun K hK => ?_)
  refine value_ (w1 := ?_) (v := ?_) (by rfl) rfl ?_ ?_
  rotate_left 2
  · go_simp
    constructor
    · rfl
    · rfl
  refine hK.out _ _ ⟨(blk_cell (blk_alloc BK.out _) 0).trans rfl, (blk_cell (blk_alloc BK.out _) 1).trans rfl, (blk_cell (blk_alloc BK.out _) 2).trans rfl, (blk_cell (blk_alloc BK.out _) 3).trans rfl⟩ (fun hHeld => ?_)
  clear hK K
  refine norm_ (a' := ?_) ?_ ?_
  rotate_left
  · show Act.put _ (some 6) _ = _
    simp only [Act.put, List.setIfInBounds_toArray, List.set_cons_zero, List.set_cons_succ, i64_w, i32_w]
    rfl
  refine one_ (i := 2) (N := some 7) #[true, true, true, true, true, true, true, false, true, true, false, false] rfl rfl (by kernel_rfl) (by decide) (fun K hK => ?_)
  refine Kd.R_append_step (Kd.int .u8) (w0 := w0) w0.heap.size (by rfl) (.tmp 5) (.tmp 6) 27 5 (.int .u8 0) 1 rfl Try.underlying27 info5 rfl (by decide) (by omega) u l0 2 [.int .u8 2] (fun k_ => (P0_ k_ ∨ w.heap.size ≤ k_)) (fun _ => False) rfl rfl rfl (fun _ hk => hk.elim) (fun k_ hk => .inr (Nat.le_trans HK.out.1 hk)) HO.out HB.out (below_size HB.out) (by have := HL.out; omega) ?_
  intro v1 w1 ho hb hg hat
  have BK1 := Aside0.mk (blk_grown BK.out hg (Kd.R_ne HO.out BK.out (by decide)))
  have HK1 := Aside0.mk (Kept.of_grown (S := (fun k_ => P0_ k_)) hg HK.out (fun k_ e_ => HO.out.1 k_ e_))
  have HO1 := Aside0.mk ho
  have HB1 := Aside0.mk hb
  clear ho hb hg hat BK HK HO HB
  refine hK.out _ _ ⟨(blk_cell BK1.out 0).trans rfl, (blk_cell BK1.out 1).trans rfl, (blk_cell BK1.out 2).trans rfl, (blk_cell BK1.out 3).trans rfl⟩ (fun hHeld => ?_)
  clear hK K
  refine norm_ (a' := ?_) ?_ ?_
  rotate_left
  · show Act.put _ (some 7) _ = _
    simp only [Act.put, List.setIfInBounds_toArray, List.set_cons_zero, List.set_cons_succ, i64_w, i32_w]
    rfl
  refine one_ (i := 7) (N := some 12) #[true, true, true, true, true, true, true, true, true, true, false, false] rfl rfl (by kernel_rfl) (by decide) (fun K hK => ?_)
  refine goes_ Try.func34 (by kernel_rfl) rfl #[v1, .int .u64 (IntKind.u64.wrap s.size)] (by rfl) rfl rfl (by (try simp only [List.map_toArray, List.map_cons, List.map_nil]); first | done | rfl) ?_
  refine (codec_numeral.calls k (fun k_ => some k_ = v1.ownBlock) v1 (l0 ++ [2]) (IntKind.u64.wrap (s.size : Int)) _ w0 _ HB1.out (Kd.R_tight rfl HO1.out) hn).mono ?_
  rintro e w2 ⟨v2, rfl, ho0, hb, hkp⟩
  refine ⟨_, rfl, ?_⟩
  have BK2 := Aside0.mk (blk_kept BK1.out hkp (fun hs_ => Kd.R_ne HO1.out BK1.out (by decide) hs_))
  have HO2 := Aside0.mk (Kd.R_mono (ok' := fun k_ => (P0_ k_ ∨ w.heap.size ≤ k_)) ho0 (fun k_ hk_ => Or.elim hk_ (fun hs_ => HO1.out.1 k_ hs_.symm) (fun hn_ => .inr (Nat.le_trans HK1.out.1 hn_))))
  have HK2 := Aside0.mk (Kept.then_ (S := (fun k_ => P0_ k_)) HK1.out hkp (fun k_ hs_ => HO1.out.1 k_ hs_.symm))
  have HB2 := Aside0.mk hb
  clear ho0 hb hkp BK1 HK1 HO1 HB1
  refine hK.out _ _ ⟨(blk_cell BK2.out 0).trans rfl, (blk_cell BK2.out 1).trans rfl, (blk_cell BK2.out 2).trans rfl, (blk_cell BK2.out 3).trans rfl⟩ (fun hHeld => ?_)
  clear hK K
  refine norm_ (a' := ?_) ?_ ?_
  rotate_left
  · show Act.put _ (some 12) _ = _
    simp only [Act.put, List.setIfInBounds_toArray, List.set_cons_zero, List.set_cons_succ, i64_w, i32_w]
    rfl
  refine one_ (i := 10) (N := some 15) #[true, true, true, true, true, true, true, true, true, true, true, false] rfl rfl (by kernel_rfl) (by decide) (fun K hK => ?_)
  refine append_str_step (w0 := w0) w0.heap.size (by rfl) (.tmp 12) (.tmp 14) 27 9 5 rfl Try.underlying27 Try.underlying9 info5 v2 _ s (fun k_ => (P0_ k_ ∨ w.heap.size ≤ k_)) rfl rfl (fun k_ hk => .inr (Nat.le_trans HK2.out.1 hk)) HO2.out HB2.out (below_size HB2.out) hl3 ?_
  intro v3 w3 ho hb hg hat
  have BK3 := Aside0.mk (blk_grown BK2.out hg (Kd.R_ne HO2.out BK2.out (by decide)))
  have HK3 := Aside0.mk (Kept.of_grown (S := (fun k_ => P0_ k_)) hg HK2.out (fun k_ e_ => HO2.out.1 k_ e_))
  have HO3 := Aside0.mk ho
  have HB3 := Aside0.mk hb
  clear ho hb hg hat BK2 HK2 HO2 HB2
  refine hK.out _ _ ⟨(blk_cell BK3.out 0).trans rfl, (blk_cell BK3.out 1).trans rfl, (blk_cell BK3.out 2).trans rfl, (blk_cell BK3.out 3).trans rfl⟩ (fun hHeld => ?_)
  clear hK K
  refine norm_ (a' := ?_) ?_ ?_
  rotate_left
  · show Act.put _ (some 15) _ = _
    simp only [Act.put, List.setIfInBounds_toArray, List.set_cons_zero, List.set_cons_succ, i64_w, i32_w]
    rfl
  refine pure_ (i := 11) (N := some 4) (v := ?_) (a' := ?_) #[true, true, true, true, true, true, true, true, true, true, true, true] rfl rfl (by kernel_rfl) (fun _ _ _ h => h) (Or.inl ⟨by rfl, ?_⟩) ?_ ?_
  rotate_left
  · intro w'
    go_simp
    with_reducible rfl
  rotate_left
  · simp only [Act.put, List.setIfInBounds_toArray, List.set_cons_zero, List.set_cons_succ, i64_w, i32_w]
    rfl
  refine done_ (by kernel_rfl) ?_
  try go_wp2
  go_ret
  exact ⟨_, rfl, by simpa using HO3.out, HB3.out, HK3.out⟩
end Go.Proofs.Ytgnkjhppfenmaaa.Q
/- The writer of lists, and all writers together. -/
namespace Go.Proofs.Ytgnkjhppfenmaaa.Q
open Go.RowKit Go.Proofs.YtgnkjhppfenmaaaW.PrintWords Go.Proofs.YtgnkjhppfenmaaaW.PrintLast Go.Proofs.YtgnkjhppfenmaaaW.PrintMore
/-- the writer's own memory: a variable that holds the table's address, and the table -/
structure IsW (w : World) (gv gw : Nat) : Prop where
  v : w.heap[gv]? = some (.cells #[.pointer (some ⟨gw, 0, none⟩)] 48 (0, 0))
  t : w.heap[gw]? = some (.cells #[.nilFunc, .func (Fn.func 33) #[] #[], .func (Fn.func 36) #[] #[], .func (Fn.func 37) #[] #[.pointer (some ⟨gv, 0, none⟩)]] 64 (0, 0))
def wfn (k : Int) : FuncId := if k = 1 then 33 else if k = 2 then 36 else 37
def wargs (k : Int) (u v : Value) (gv : Nat) : Array Value := if k = 1 then #[u, v] else if k = 2 then #[u, v] else #[u, v, .pointer (some ⟨gv, 0, none⟩)]
/-- what is said of the writer of x -/
def WriteSays (x : S24) : Prop := ∀ (P0_ : Nat → Prop) (u : Value) (l0 : List Int) (A : Option Addr) (c : Nat) (w0 w : World) (gv gw : Nat), Below w0.heap.size w0 w → Kd.R (Kd.int .u8) 5 w w0.heap.size P0_ u l0 → Kd.C k24 w0 A x.f3.length x.f3 → x.f3.length ≤ c → IsW w gv gw → ¬ P0_ gv → ¬ P0_ gw → l0.length + (encV x).length < 140737488355328 → (formedV x).2 = true →
    Calls Try.prog (wfn x.f0) (wargs x.f0 u (.agg #[.int .i64 x.f0, .int .i64 x.f1, .string x.f2, .slice A x.f3.length c]) gv) w fun e w' => ∃ v0_ : Value, e = .returned (v0_) ∧ Kd.R (Kd.int .u8) 5 w' w0.heap.size (fun k_ => (P0_ k_ ∨ w.heap.size ≤ k_)) v0_ (l0 ++ encV x) ∧ Below w0.heap.size w0 w' ∧ Kept w w' (fun k_ => P0_ k_)
set_option maxHeartbeats 8000000 in
set_option maxRecDepth 100000 in
theorem write3 (P0_ : Nat → Prop) (u : Value) (l0 : List Int) (n1 : Int) (s : ByteArray) (A : Option Addr) (c : Nat) (l : List S24) (w0 w : World) (gv gw : Nat) (hB : Below w0.heap.size w0 w) (ho0 : Kd.R (Kd.int .u8) 5 w w0.heap.size P0_ u l0) (hC : Kd.C k24 w0 A l.length l) (hc : l.length ≤ c) (hW : IsW w gv gw) (hpv : ¬ P0_ gv) (hpw : ¬ P0_ gw) (hl : l0.length + (1 + (numL l.length).length + (encL l).length) < 140737488355328)
    (hf : ∀ x ∈ l, (formedV x).2 = true) (ih : ∀ x ∈ l, WriteSays x) :
    Calls Try.prog 37 #[u, .agg #[.int .i64 3, .int .i64 n1, .string s, .slice A l.length c], .pointer (some ⟨gv, 0, none⟩)] w fun e w' => ∃ v0_ : Value, e = .returned (v0_) ∧ Kd.R (Kd.int .u8) 5 w' w0.heap.size (fun k_ => (P0_ k_ ∨ w.heap.size ≤ k_)) v0_ (l0 ++ 3 :: (numL l.length ++ encL l)) ∧ Below w0.heap.size w0 w' ∧ Kept w w' (fun k_ => P0_ k_) := by
  have hu24 := Try.underlying24
  have hs47 : (l.length : Int) ≤ 9223372036854775807 := by have := hC.2.1; omega
  obtain ⟨k, hn⟩ := numeral_ev l.length l.length (l0 ++ [3]) (Nat.le_refl _) (by simp; omega)
  rw [← show IntKind.u64.wrap (l.length : Int) = (l.length : Int) by rw [u64w]; omega] at hn
  have HL := Aside0.mk hl
  have HC := Aside0.mk hC
  have IH := Aside0.mk ih
  have HF := Aside0.mk hf
  have HO := Aside0.mk (show Kd.R (Kd.int .u8) 5 w w0.heap.size (fun k_ => (P0_ k_ ∨ w.heap.size ≤ k_)) u l0 from Kd.R_mono ho0 (fun k_ hk => (.inl hk)))
  have HK := Aside0.mk (Kept.refl w (fun k_ => P0_ k_))
  have HB := Aside0.mk hB
  have HW := Aside0.mk hW
  have NV := Aside0.mk hpv
  have NW := Aside0.mk hpw
  clear hB hl ho0 hC ih hf hW hpv hpw
  go_enter Try.func37, Try.ntmps37
  go_wp2_with ((with_reducible refine gate_dst (N := 4) rfl ?_); refine box_event ?hg (N := 4) ?hd (cs := #[.int .i64 3, .int .i64 n1, .string s, .slice A l.length c]) (t := 24) ?hr ?_; (case hd => rfl); (case hg => rfl); (case hr => first | (go_simp; done) | (go_simp; rfl)); intro gb hg w5 hbox hb; have GB := Aside0.mk (show w.heap.size ≤ gb by omega); have HO' := Aside0.mk (Kd.R_below HO.out hb); have HK' := Aside0.mk (Kept.below HK.out hb); have HB' := Aside0.mk (below_step HB.out hb); have BK := Aside0.mk hbox; clear HO HK HB hg hbox hb; have HO := HO'; have HK := HK'; have HB := HB'; clear HO' HK' HB')
  replace HO := Aside0.mk (Kd.R_drew HO.out)
  replace HK := Aside0.mk (Kept.drew HK.out)
  replace HB := Aside0.mk (below_drew1 HB.out)
  replace BK := Aside0.mk (blk_drew BK.out)
  refine start_ (n := 9) (S := fun w' => w'.cell? ⟨gb, 0, none⟩ = some (.int .i64 3) ∧ w'.cell? ⟨gb, 1, none⟩ = some (.int .i64 n1) ∧ w'.cell? ⟨gb, 2, none⟩ = some (.string s) ∧ w'.cell? ⟨gb, 3, none⟩ = some (.slice A l.length c)) (ds := []) #[false, false, false, false, false, false, false, false, false] (by kernel_rfl) rfl rfl ⟨(blk_cell BK.out 0).trans rfl, (blk_cell BK.out 1).trans rfl, (blk_cell BK.out 2).trans rfl, (blk_cell BK.out 3).trans rfl⟩ (fun hHeld => ?_)
  generalize w5.drew = w6 at HO BK HK HB hHeld ⊢
  refine pure_ (i := 0) (N := some 8) (v := ?_) (a' := ?_) #[true, false, false, false, false, false, false, false, false] rfl rfl (by kernel_rfl) (fun _ _ _ h => h) (Or.inl ⟨by rfl, ?_⟩) ?_ ?_
  rotate_left
  · intro w'
    go_simp
    with_reducible rfl
  rotate_left
  · simp only [Act.put, List.setIfInBounds_toArray, List.set_cons_zero, List.set_cons_succ, i64_w, i32_w]
    rfl
  refine pure_ (i := 3) (N := some 11) (v := ?_) (a' := ?_) #[true, false, false, true, false, false, false, false, false] rfl rfl (by kernel_rfl) (fun _ _ _ h => h) (Or.inl ⟨by rfl, ?_⟩) ?_ ?_
  rotate_left
  · intro w'
    go_simp
    with_reducible rfl
  rotate_left
  · simp only [Act.put, List.setIfInBounds_toArray, List.set_cons_zero, List.set_cons_succ, i64_w, i32_w]
    rfl
  refine take_ (i := 4) (N := some 12) (v := ?_) (a' := ?_) #[true, false, false, true, true, false, false, false, false] rfl rfl (by kernel_rfl) (fun _ _ _ h => h) (Or.inl ⟨by rfl, ?_⟩) hHeld ?_ ?_
  rotate_left
  · rintro w' ⟨s0, s1, s2, s3⟩
    go_simp
    with_reducible rfl
  rotate_left
  · simp only [Act.put, List.setIfInBounds_toArray, List.set_cons_zero, List.set_cons_succ, i64_w, i32_w]
    rfl
  refine pure_ (i := 5) (N := some 13) (v := ?_) (a' := ?_) #[true, false, false, true, true, true, false, false, false] rfl rfl (by kernel_rfl) (fun _ _ _ h => h) (Or.inl ⟨by rfl, ?_⟩) ?_ ?_
  rotate_left
  · intro w'
    go_simp
    with_reducible rfl
  rotate_left
  · simp only [Act.put, List.setIfInBounds_toArray, List.set_cons_zero, List.set_cons_succ, i64_w, i32_w]
    rfl
  refine pure_ (i := 6) (N := some 14) (v := ?_) (a' := ?_) #[true, false, false, true, true, true, true, false, false] rfl rfl (by kernel_rfl) (fun _ _ _ h => h) (Or.inl ⟨by rfl, ?_⟩) ?_ ?_
  rotate_left
  · intro w'
    go_simp
    with_reducible rfl
  rotate_left
  · simp only [Act.put, List.setIfInBounds_toArray, List.set_cons_zero, List.set_cons_succ, i64_w, i32_w]
    rfl
  refine one_ (i := 1) (N := some 9) #[true, true, false, true, true, true, true, false, false] rfl rfl (by kernel_rfl) (by decide) (fun K hK => ?_)
  refine value_ (w1 := ?_) (v := ?_) (by rfl) rfl ?_ ?_
  rotate_left 2
  · go_simp
    constructor
    · rfl
    · rfl
  refine hK.out _ _ ⟨(blk_cell (blk_alloc BK.out _) 0).trans rfl, (blk_cell (blk_alloc BK.out _) 1).trans rfl, (blk_cell (blk_alloc BK.out _) 2).trans rfl, (blk_cell (blk_alloc BK.out _) 3).trans rfl⟩ (fun hHeld => ?_)
  clear hK K
  refine norm_ (a' := ?_) ?_ ?_
  rotate_left
  · show Act.put _ (some 9) _ = _
    simp only [Act.put, List.setIfInBounds_toArray, List.set_cons_zero, List.set_cons_succ, i64_w, i32_w]
    rfl
  refine one_ (i := 2) (N := some 10) #[true, true, true, true, true, true, true, false, false] rfl rfl (by kernel_rfl) (by decide) (fun K hK => ?_)
  refine Kd.R_append_step (Kd.int .u8) (w0 := w0) w0.heap.size (by rfl) (.tmp 8) (.tmp 9) 27 5 (.int .u8 0) 1 rfl Try.underlying27 info5 rfl (by decide) (by omega) u l0 3 [.int .u8 3] (fun k_ => (P0_ k_ ∨ w.heap.size ≤ k_)) (fun _ => False) rfl rfl rfl (fun _ hk => hk.elim) (fun k_ hk => .inr (Nat.le_trans HK.out.1 hk)) HO.out HB.out (below_size HB.out) (by have := HL.out; omega) ?_
  intro v1 w1 ho hb hg hat
  have BK1 := Aside0.mk (blk_grown BK.out hg (Kd.R_ne HO.out BK.out (by decide)))
  have HK1 := Aside0.mk (Kept.of_grown (S := (fun k_ => P0_ k_)) hg HK.out (fun k_ e_ => HO.out.1 k_ e_))
  have HO1 := Aside0.mk ho
  have HB1 := Aside0.mk hb
  clear ho hb hg hat BK HK HO HB
  refine hK.out _ _ ⟨(blk_cell BK1.out 0).trans rfl, (blk_cell BK1.out 1).trans rfl, (blk_cell BK1.out 2).trans rfl, (blk_cell BK1.out 3).trans rfl⟩ (fun hHeld => ?_)
  clear hK K
  refine norm_ (a' := ?_) ?_ ?_
  rotate_left
  · show Act.put _ (some 10) _ = _
    simp only [Act.put, List.setIfInBounds_toArray, List.set_cons_zero, List.set_cons_succ, i64_w, i32_w]
    rfl
  refine one_ (i := 7) (N := some 15) #[true, true, true, true, true, true, true, true, false] rfl rfl (by kernel_rfl) (by decide) (fun K hK => ?_)
  refine goes_ Try.func34 (by kernel_rfl) rfl #[v1, .int .u64 (IntKind.u64.wrap l.length)] (by rfl) rfl rfl (by (try simp only [List.map_toArray, List.map_cons, List.map_nil]); first | done | rfl) ?_
  refine (codec_numeral.calls k (fun k_ => some k_ = v1.ownBlock) v1 (l0 ++ [3]) (IntKind.u64.wrap (l.length : Int)) _ w0 _ HB1.out (Kd.R_tight rfl HO1.out) hn).mono ?_
  rintro e w2 ⟨v2, rfl, ho0, hb, hkp⟩
  refine ⟨_, rfl, ?_⟩
  have BK2 := Aside0.mk (blk_kept BK1.out hkp (fun hs_ => Kd.R_ne HO1.out BK1.out (by decide) hs_))
  have HO2 := Aside0.mk (Kd.R_mono (ok' := fun k_ => (P0_ k_ ∨ w.heap.size ≤ k_)) ho0 (fun k_ hk_ => Or.elim hk_ (fun hs_ => HO1.out.1 k_ hs_.symm) (fun hn_ => .inr (Nat.le_trans HK1.out.1 hn_))))
  have HK2 := Aside0.mk (Kept.then_ (S := (fun k_ => P0_ k_)) HK1.out hkp (fun k_ hs_ => HO1.out.1 k_ hs_.symm))
  have HB2 := Aside0.mk hb
  clear ho0 hb hkp BK1 HK1 HO1 HB1
  refine hK.out _ _ ⟨(blk_cell BK2.out 0).trans rfl, (blk_cell BK2.out 1).trans rfl, (blk_cell BK2.out 2).trans rfl, (blk_cell BK2.out 3).trans rfl⟩ (fun hHeld => ?_)
  clear hK K
  refine norm_ (a' := ?_) ?_ ?_
  rotate_left
  · show Act.put _ (some 15) _ = _
    simp only [Act.put, List.setIfInBounds_toArray, List.set_cons_zero, List.set_cons_succ, i64_w, i32_w]
    rfl
  refine pure_ (i := 8) (N := some 0) (v := ?_) (a' := ?_) #[true, true, true, true, true, true, true, true, true] rfl rfl (by kernel_rfl) (fun _ _ _ h => h) (Or.inl ⟨by rfl, ?_⟩) ?_ ?_
  rotate_left
  · intro w'
    go_simp
    with_reducible rfl
  rotate_left
  · simp only [Act.put, List.setIfInBounds_toArray, List.set_cons_zero, List.set_cons_succ, i64_w, i32_w]
    rfl
  refine done_ (by kernel_rfl) ?_
  have hz3 := (blk_cell BK2.out 3).trans rfl
  have hz0 : w2.cell? ⟨gb, 3, none⟩ = some (.slice A l.length c) := hz3
  clear hz3
  have HW2 := Aside0.mk (show IsW w2 gv gw from ⟨blk_kept HW.out.v HK2.out NV.out, blk_kept HW.out.t HK2.out NW.out⟩)
  clear HW
  go_wp2
  go_loopg [0, 19] l.length (fun kq v0 v19 w' => ∃ (i : Int) (ys : List Int), v19 = .int .i64 i ∧ Aside0 (0 ≤ i ∧ (kq : Int) + i = l.length) ∧ Aside0 (ys ++ encL (l.drop i.toNat) = l0 ++ 3 :: (numL l.length ++ encL l)) ∧ Aside0 (Kd.R (Kd.int .u8) 5 w' w0.heap.size (fun k_ => (P0_ k_ ∨ w.heap.size ≤ k_)) v0 ys) ∧ Aside0 (Below w0.heap.size w0 w') ∧ Aside0 (Kept w w' (fun k_ => P0_ k_)) ∧ Aside0 (IsW w' gv gw))
  case atStart => exact ⟨0, _, rfl, ⟨by omega⟩, ⟨by simp⟩, HO2, HB2, HK2, HW2⟩
  case round =>
    clear hz0 BK2 HO2 HB2 HK2 HW2
    obtain ⟨i, ys, rfl, HI, HE, HO, HB, HK, HW⟩ := hrel
    by_cases hi : i < l.length
    · have hi0 : decide (i < (l.length : Int)) = true := decide_eq_true hi
      have hm := Aside0.mk (rd_mem l i HI.out.1 hi)
      have hd := Aside0.mk (drop_rd l i HI.out.1 hi)
      have hw := Aside0.mk (wrap_at i l.length HI.out.1 hi HC.out.2.1)
      obtain ⟨ad, A3, c3, ha, hx0, hx1, hx2, hx3, hl3, hi3⟩ := at_T24 HC.out i HI.out.1 hi
      cases ha
      replace hx0 := (HB.out.cell (World.block_lt_of_cell? w0 _ hx0)).trans hx0
      replace hx1 := (HB.out.cell (World.block_lt_of_cell? w0 _ hx1)).trans hx1
      replace hx2 := (HB.out.cell (World.block_lt_of_cell? w0 _ hx2)).trans hx2
      replace hx3 := (HB.out.cell (World.block_lt_of_cell? w0 _ hx3)).trans hx3
      have hfx := HF.out _ hm.out
      have hix := IH.out _ hm.out
      have hi1 := eq_true HI.out.1
      replace hi := eq_true hi
      clear hm
      generalize rd_T24 l i = x at *
      have HY : Aside0 ((ys ++ encV x) ++ encL (l.drop (i + 1).toNat) = l0 ++ 3 :: (numL l.length ++ encL l)) := ⟨by rw [← HE.out, hd.out, encL, List.append_assoc]⟩
      have hlen : ys.length + (encV x).length < 140737488355328 := by
        have h1 := congrArg List.length HY.out
        have h2 := HL.out
        simp at h1
        omega
      obtain ⟨xk, xn, xs, xl⟩ := x
      have hk := kind_of_formed hfx
      have C := Aside0.mk (fun (wx : World) (hb : Below w0.heap.size w0 wx) (hr : Kd.R (Kd.int .u8) 5 wx w0.heap.size (fun k_ => some k_ = u0.ownBlock) u0 ys) (hw : IsW wx gv gw) => hix (fun k_ => some k_ = u0.ownBlock) u0 ys A3 c3 w0 wx gv gw hb hr hi3 hl3 hw (fun hs => Kd.R_ne hr hw.v (by decide) hs) (fun hs => Kd.R_ne hr hw.t (by decide) hs) hlen hfx)
      clear hix hi3 hl3 hlen hfx
      simp only at hk
      rcases hk with rfl | rfl | rfl
      · go_wp2
        have HX := Aside0.mk (show Below w0.heap.size w0 (wr.alloc (.cells #[.int .i64 1, .int .i64 xn, .string xs, .slice A3 xl.length c3] 24)).drew ∧ Kd.R (Kd.int .u8) 5 (wr.alloc (.cells #[.int .i64 1, .int .i64 xn, .string xs, .slice A3 xl.length c3] 24)).drew w0.heap.size (fun k_ => some k_ = u0.ownBlock) u0 ys ∧ IsW (wr.alloc (.cells #[.int .i64 1, .int .i64 xn, .string xs, .slice A3 xl.length c3] 24)).drew gv gw ∧ Kept w (wr.alloc (.cells #[.int .i64 1, .int .i64 xn, .string xs, .slice A3 xl.length c3] 24)).drew (fun k_ => P0_ k_) from ⟨below_drew1 (below_alloc HB.out _), Kd.R_drew (Kd.R_alloc (Kd.R_tight rfl HO.out) _), ⟨blk_drew (blk_alloc HW.out.v _), blk_drew (blk_alloc HW.out.t _)⟩, Kept.drew (Kept.alloc HK.out _)⟩)
        have HOk := Aside0.mk (show ∀ k_, u0.ownBlock = some k_ → (P0_ k_ ∨ w.heap.size ≤ k_) from HO.out.1)
        have BX := Aside0.mk (show (wr.alloc (.cells #[.int .i64 1, .int .i64 xn, .string xs, .slice A3 xl.length c3] 24)).drew.heap[wr.heap.size]? = some (.cells #[.int .i64 1, .int .i64 xn, .string xs, .slice A3 xl.length c3] 24 (0, 0)) from blk_drew (blk_new wr _))
        clear HB HO HW HK
        obtain ⟨gx, hgx⟩ : ∃ g : Nat, wr.heap.size = g := ⟨_, rfl⟩
        rw [hgx] at BX
        simp only [hgx]
        have hgx' := Aside0.mk hgx
        clear hgx
        refine start_ (n := 11) (S := fun w' => w'.cell? ⟨gv, 0, none⟩ = some (.pointer (some ⟨gw, 0, none⟩)) ∧ w'.cell? ⟨gw, 1, none⟩ = some (.func (Fn.func 33) #[] #[]) ∧ w'.cell? ⟨gx, 0, none⟩ = some (.int .i64 1) ∧ w'.cell? ⟨gx, 1, none⟩ = some (.int .i64 xn) ∧ w'.cell? ⟨gx, 2, none⟩ = some (.string xs) ∧ w'.cell? ⟨gx, 3, none⟩ = some (.slice A3 xl.length c3)) (ds := []) #[false, false, false, false, false, false, false, false, false, false, false] (by kernel_rfl) rfl rfl ⟨(blk_cell HX.out.2.2.1.v 0).trans rfl, (blk_cell HX.out.2.2.1.t 1).trans rfl, (blk_cell BX.out 0).trans rfl, (blk_cell BX.out 1).trans rfl, (blk_cell BX.out 2).trans rfl, (blk_cell BX.out 3).trans rfl⟩ (fun hHeld => ?_)
        generalize (wr.alloc (.cells #[.int .i64 1, .int .i64 xn, .string xs, .slice A3 xl.length c3] 24)).drew = wx at HX BX hHeld ⊢
        refine take_ (i := 0) (N := some 23) (v := ?_) (a' := ?_) #[true, false, false, false, false, false, false, false, false, false, false] rfl rfl (by kernel_rfl) (fun _ _ _ h => h) (Or.inl ⟨by rfl, ?_⟩) hHeld ?_ ?_
        rotate_left
        · rintro w' ⟨s0, s1, s2, s3, s4, s5⟩
          go_simp
          with_reducible rfl
        rotate_left
        · simp only [Act.put, List.setIfInBounds_toArray, List.set_cons_zero, List.set_cons_succ, i64_w, i32_w]
          rfl
        refine pure_ (i := 1) (N := some 24) (v := ?_) (a' := ?_) #[true, true, false, false, false, false, false, false, false, false, false] rfl rfl (by kernel_rfl) (fun _ _ _ h => h) (Or.inl ⟨by rfl, ?_⟩) ?_ ?_
        rotate_left
        · intro w'
          go_simp
          with_reducible rfl
        rotate_left
        · simp only [Act.put, List.setIfInBounds_toArray, List.set_cons_zero, List.set_cons_succ, i64_w, i32_w]
          rfl
        refine take_ (i := 2) (N := some 25) (v := ?_) (a' := ?_) #[true, true, true, false, false, false, false, false, false, false, false] rfl rfl (by kernel_rfl) (fun _ _ _ h => h) (Or.inl ⟨by rfl, ?_⟩) hHeld ?_ ?_
        rotate_left
        · rintro w' ⟨s0, s1, s2, s3, s4, s5⟩
          go_simp
          with_reducible rfl
        rotate_left
        · simp only [Act.put, List.setIfInBounds_toArray, List.set_cons_zero, List.set_cons_succ, i64_w, i32_w]
          rfl
        refine pure_ (i := 3) (N := some 26) (v := ?_) (a' := ?_) #[true, true, true, true, false, false, false, false, false, false, false] rfl rfl (by kernel_rfl) (fun _ _ _ h => h) (Or.inl ⟨by rfl, ?_⟩) ?_ ?_
        rotate_left
        · intro w'
          go_simp
          with_reducible rfl
        rotate_left
        · simp only [Act.put, List.setIfInBounds_toArray, List.set_cons_zero, List.set_cons_succ, i64_w, i32_w]
          rfl
        refine pure_ (i := 4) (N := some 27) (v := ?_) (a' := ?_) #[true, true, true, true, true, false, false, false, false, false, false] rfl rfl (by kernel_rfl) (fun _ _ _ h => h) (Or.inl ⟨by rfl, ?_⟩) ?_ ?_
        rotate_left
        · intro w'
          go_simp
          with_reducible rfl
        rotate_left
        · simp only [Act.put, List.setIfInBounds_toArray, List.set_cons_zero, List.set_cons_succ, i64_w, i32_w]
          rfl
        refine pure_ (i := 5) (N := some 28) (v := ?_) (a' := ?_) #[true, true, true, true, true, true, false, false, false, false, false] rfl rfl (by kernel_rfl) (fun _ _ _ h => h) (Or.inl ⟨by rfl, ?_⟩) ?_ ?_
        rotate_left
        · intro w'
          go_simp
          with_reducible rfl
        rotate_left
        · simp only [Act.put, List.setIfInBounds_toArray, List.set_cons_zero, List.set_cons_succ, i64_w, i32_w]
          rfl
        refine take_ (i := 6) (N := some 29) (v := ?_) (a' := ?_) #[true, true, true, true, true, true, true, false, false, false, false] rfl rfl (by kernel_rfl) (fun _ _ _ h => h) (Or.inl ⟨by rfl, ?_⟩) hHeld ?_ ?_
        rotate_left
        · rintro w' ⟨s0, s1, s2, s3, s4, s5⟩
          go_simp
          with_reducible rfl
        rotate_left
        · simp only [Act.put, List.setIfInBounds_toArray, List.set_cons_zero, List.set_cons_succ, i64_w, i32_w]
          rfl
        refine pure_ (i := 7) (N := some 30) (v := ?_) (a' := ?_) #[true, true, true, true, true, true, true, true, false, false, false] rfl rfl (by kernel_rfl) (fun _ _ _ h => h) (Or.inl ⟨by rfl, ?_⟩) ?_ ?_
        rotate_left
        · intro w'
          go_simp
          with_reducible rfl
        rotate_left
        · simp only [Act.put, List.setIfInBounds_toArray, List.set_cons_zero, List.set_cons_succ, i64_w, i32_w]
          rfl
        refine take_ (i := 8) (N := some 31) (v := ?_) (a' := ?_) #[true, true, true, true, true, true, true, true, true, false, false] rfl rfl (by kernel_rfl) (fun _ _ _ h => h) (Or.inl ⟨by rfl, ?_⟩) hHeld ?_ ?_
        rotate_left
        · rintro w' ⟨s0, s1, s2, s3, s4, s5⟩
          go_simp
          with_reducible rfl
        rotate_left
        · simp only [Act.put, List.setIfInBounds_toArray, List.set_cons_zero, List.set_cons_succ, i64_w, i32_w]
          rfl
        refine one_ (i := 9) (N := some 32) #[true, true, true, true, true, true, true, true, true, true, false] rfl rfl (by kernel_rfl) (by decide) (fun K hK => ?_)
        refine goesV_ Try.func33 (by kernel_rfl) rfl #[u0, .agg #[.int .i64 1, .int .i64 xn, .string xs, .slice A3 xl.length c3]] (by rfl) rfl rfl (by rfl) (by (try simp only [List.map_toArray, List.map_cons, List.map_nil]); first | done | rfl | simp) ?_
        refine (C.out wx HX.out.1 HX.out.2.1 HX.out.2.2.1).mono ?_
        rintro e w2 ⟨v2, rfl, hr2, hb2, hk2⟩
        refine ⟨_, rfl, ?_⟩
        have BX2 := Aside0.mk (blk_kept BX.out hk2 (fun hs_ => Kd.R_ne HX.out.2.1 BX.out (by decide) hs_))
        have BV2 := Aside0.mk (blk_kept HX.out.2.2.1.v hk2 (fun hs_ => Kd.R_ne HX.out.2.1 HX.out.2.2.1.v (by decide) hs_))
        have BT2 := Aside0.mk (blk_kept HX.out.2.2.1.t hk2 (fun hs_ => Kd.R_ne HX.out.2.1 HX.out.2.2.1.t (by decide) hs_))
        have HO2 := Aside0.mk (Kd.R_mono (ok' := fun k_ => (P0_ k_ ∨ w.heap.size ≤ k_)) hr2 (fun k_ hk_ => Or.elim hk_ (fun hs_ => HX.out.2.1.1 k_ hs_.symm |> fun z => HOk.out k_ hs_.symm) (fun hn_ => .inr (Nat.le_trans HX.out.2.2.2.1 hn_))))
        have HK2 := Aside0.mk (Kept.then_ (S := (fun k_ => P0_ k_)) HX.out.2.2.2 hk2 (fun k_ hs_ => HOk.out k_ hs_.symm))
        have HB2 := Aside0.mk hb2
        clear hr2 hb2 hk2
        refine hK.out _ _ ⟨(blk_cell BV2.out 0).trans rfl, (blk_cell BT2.out 1).trans rfl, (blk_cell BX2.out 0).trans rfl, (blk_cell BX2.out 1).trans rfl, (blk_cell BX2.out 2).trans rfl, (blk_cell BX2.out 3).trans rfl⟩ (fun hHeld => ?_)
        clear hK K
        refine norm_ (a' := ?_) ?_ ?_
        rotate_left
        · show Act.put _ (some 32) _ = _
          simp only [Act.put, List.setIfInBounds_toArray, List.set_cons_zero, List.set_cons_succ, i64_w, i32_w]
          rfl
        refine pure_ (i := 10) (N := some 0) (v := ?_) (a' := ?_) #[true, true, true, true, true, true, true, true, true, true, true] rfl rfl (by kernel_rfl) (fun _ _ _ h => h) (Or.inl ⟨by rfl, ?_⟩) ?_ ?_
        rotate_left
        · intro w'
          go_simp
          with_reducible rfl
        rotate_left
        · simp only [Act.put, List.setIfInBounds_toArray, List.set_cons_zero, List.set_cons_succ, i64_w, i32_w]
          rfl
        refine done_ (by kernel_rfl) ?_

        try go_wp2
        go_roundg (gk - 1)
        case measure => have := HI.out; have := of_eq_true hi; omega
        case rel => exact ⟨i + 1, _, by first | rfl | rw [hw.out], ⟨by have := HI.out; have := of_eq_true hi; omega⟩, ⟨HY.out⟩, HO2, HB2, HK2, ⟨⟨BV2.out, BT2.out⟩⟩⟩

      · go_wp2
        have HX := Aside0.mk (show Below w0.heap.size w0 (wr.alloc (.cells #[.int .i64 2, .int .i64 xn, .string xs, .slice A3 xl.length c3] 24)).drew ∧ Kd.R (Kd.int .u8) 5 (wr.alloc (.cells #[.int .i64 2, .int .i64 xn, .string xs, .slice A3 xl.length c3] 24)).drew w0.heap.size (fun k_ => some k_ = u0.ownBlock) u0 ys ∧ IsW (wr.alloc (.cells #[.int .i64 2, .int .i64 xn, .string xs, .slice A3 xl.length c3] 24)).drew gv gw ∧ Kept w (wr.alloc (.cells #[.int .i64 2, .int .i64 xn, .string xs, .slice A3 xl.length c3] 24)).drew (fun k_ => P0_ k_) from ⟨below_drew1 (below_alloc HB.out _), Kd.R_drew (Kd.R_alloc (Kd.R_tight rfl HO.out) _), ⟨blk_drew (blk_alloc HW.out.v _), blk_drew (blk_alloc HW.out.t _)⟩, Kept.drew (Kept.alloc HK.out _)⟩)
        have HOk := Aside0.mk (show ∀ k_, u0.ownBlock = some k_ → (P0_ k_ ∨ w.heap.size ≤ k_) from HO.out.1)
        have BX := Aside0.mk (show (wr.alloc (.cells #[.int .i64 2, .int .i64 xn, .string xs, .slice A3 xl.length c3] 24)).drew.heap[wr.heap.size]? = some (.cells #[.int .i64 2, .int .i64 xn, .string xs, .slice A3 xl.length c3] 24 (0, 0)) from blk_drew (blk_new wr _))
        clear HB HO HW HK
        obtain ⟨gx, hgx⟩ : ∃ g : Nat, wr.heap.size = g := ⟨_, rfl⟩
        rw [hgx] at BX
        simp only [hgx]
        have hgx' := Aside0.mk hgx
        clear hgx
        refine start_ (n := 11) (S := fun w' => w'.cell? ⟨gv, 0, none⟩ = some (.pointer (some ⟨gw, 0, none⟩)) ∧ w'.cell? ⟨gw, 2, none⟩ = some (.func (Fn.func 36) #[] #[]) ∧ w'.cell? ⟨gx, 0, none⟩ = some (.int .i64 2) ∧ w'.cell? ⟨gx, 1, none⟩ = some (.int .i64 xn) ∧ w'.cell? ⟨gx, 2, none⟩ = some (.string xs) ∧ w'.cell? ⟨gx, 3, none⟩ = some (.slice A3 xl.length c3)) (ds := []) #[false, false, false, false, false, false, false, false, false, false, false] (by kernel_rfl) rfl rfl ⟨(blk_cell HX.out.2.2.1.v 0).trans rfl, (blk_cell HX.out.2.2.1.t 2).trans rfl, (blk_cell BX.out 0).trans rfl, (blk_cell BX.out 1).trans rfl, (blk_cell BX.out 2).trans rfl, (blk_cell BX.out 3).trans rfl⟩ (fun hHeld => ?_)
        generalize (wr.alloc (.cells #[.int .i64 2, .int .i64 xn, .string xs, .slice A3 xl.length c3] 24)).drew = wx at HX BX hHeld ⊢
        refine take_ (i := 0) (N := some 23) (v := ?_) (a' := ?_) #[true, false, false, false, false, false, false, false, false, false, false] rfl rfl (by kernel_rfl) (fun _ _ _ h => h) (Or.inl ⟨by rfl, ?_⟩) hHeld ?_ ?_
        rotate_left
        · rintro w' ⟨s0, s1, s2, s3, s4, s5⟩
          go_simp
          with_reducible rfl
        rotate_left
        · simp only [Act.put, List.setIfInBounds_toArray, List.set_cons_zero, List.set_cons_succ, i64_w, i32_w]
          rfl
        refine pure_ (i := 1) (N := some 24) (v := ?_) (a' := ?_) #[true, true, false, false, false, false, false, false, false, false, false] rfl rfl (by kernel_rfl) (fun _ _ _ h => h) (Or.inl ⟨by rfl, ?_⟩) ?_ ?_
        rotate_left
        · intro w'
          go_simp
          with_reducible rfl
        rotate_left
        · simp only [Act.put, List.setIfInBounds_toArray, List.set_cons_zero, List.set_cons_succ, i64_w, i32_w]
          rfl
        refine take_ (i := 2) (N := some 25) (v := ?_) (a' := ?_) #[true, true, true, false, false, false, false, false, false, false, false] rfl rfl (by kernel_rfl) (fun _ _ _ h => h) (Or.inl ⟨by rfl, ?_⟩) hHeld ?_ ?_
        rotate_left
        · rintro w' ⟨s0, s1, s2, s3, s4, s5⟩
          go_simp
          with_reducible rfl
        rotate_left
        · simp only [Act.put, List.setIfInBounds_toArray, List.set_cons_zero, List.set_cons_succ, i64_w, i32_w]
          rfl
        refine pure_ (i := 3) (N := some 26) (v := ?_) (a' := ?_) #[true, true, true, true, false, false, false, false, false, false, false] rfl rfl (by kernel_rfl) (fun _ _ _ h => h) (Or.inl ⟨by rfl, ?_⟩) ?_ ?_
        rotate_left
        · intro w'
          go_simp
          with_reducible rfl
        rotate_left
        · simp only [Act.put, List.setIfInBounds_toArray, List.set_cons_zero, List.set_cons_succ, i64_w, i32_w]
          rfl
        refine pure_ (i := 4) (N := some 27) (v := ?_) (a' := ?_) #[true, true, true, true, true, false, false, false, false, false, false] rfl rfl (by kernel_rfl) (fun _ _ _ h => h) (Or.inl ⟨by rfl, ?_⟩) ?_ ?_
        rotate_left
        · intro w'
          go_simp
          with_reducible rfl
        rotate_left
        · simp only [Act.put, List.setIfInBounds_toArray, List.set_cons_zero, List.set_cons_succ, i64_w, i32_w]
          rfl
        refine pure_ (i := 5) (N := some 28) (v := ?_) (a' := ?_) #[true, true, true, true, true, true, false, false, false, false, false] rfl rfl (by kernel_rfl) (fun _ _ _ h => h) (Or.inl ⟨by rfl, ?_⟩) ?_ ?_
        rotate_left
        · intro w'
          go_simp
          with_reducible rfl
        rotate_left
        · simp only [Act.put, List.setIfInBounds_toArray, List.set_cons_zero, List.set_cons_succ, i64_w, i32_w]
          rfl
        refine take_ (i := 6) (N := some 29) (v := ?_) (a' := ?_) #[true, true, true, true, true, true, true, false, false, false, false] rfl rfl (by kernel_rfl) (fun _ _ _ h => h) (Or.inl ⟨by rfl, ?_⟩) hHeld ?_ ?_
        rotate_left
        · rintro w' ⟨s0, s1, s2, s3, s4, s5⟩
          go_simp
          with_reducible rfl
        rotate_left
        · simp only [Act.put, List.setIfInBounds_toArray, List.set_cons_zero, List.set_cons_succ, i64_w, i32_w]
          rfl
        refine pure_ (i := 7) (N := some 30) (v := ?_) (a' := ?_) #[true, true, true, true, true, true, true, true, false, false, false] rfl rfl (by kernel_rfl) (fun _ _ _ h => h) (Or.inl ⟨by rfl, ?_⟩) ?_ ?_
        rotate_left
        · intro w'
          go_simp
          with_reducible rfl
        rotate_left
        · simp only [Act.put, List.setIfInBounds_toArray, List.set_cons_zero, List.set_cons_succ, i64_w, i32_w]
          rfl
        refine take_ (i := 8) (N := some 31) (v := ?_) (a' := ?_) #[true, true, true, true, true, true, true, true, true, false, false] rfl rfl (by kernel_rfl) (fun _ _ _ h => h) (Or.inl ⟨by rfl, ?_⟩) hHeld ?_ ?_
        rotate_left
        · rintro w' ⟨s0, s1, s2, s3, s4, s5⟩
          go_simp
          with_reducible rfl
        rotate_left
        · simp only [Act.put, List.setIfInBounds_toArray, List.set_cons_zero, List.set_cons_succ, i64_w, i32_w]
          rfl
        refine one_ (i := 9) (N := some 32) #[true, true, true, true, true, true, true, true, true, true, false] rfl rfl (by kernel_rfl) (by decide) (fun K hK => ?_)
        refine goesV_ Try.func36 (by kernel_rfl) rfl #[u0, .agg #[.int .i64 2, .int .i64 xn, .string xs, .slice A3 xl.length c3]] (by rfl) rfl rfl (by rfl) (by (try simp only [List.map_toArray, List.map_cons, List.map_nil]); first | done | rfl | simp) ?_
        refine (C.out wx HX.out.1 HX.out.2.1 HX.out.2.2.1).mono ?_
        rintro e w2 ⟨v2, rfl, hr2, hb2, hk2⟩
        refine ⟨_, rfl, ?_⟩
        have BX2 := Aside0.mk (blk_kept BX.out hk2 (fun hs_ => Kd.R_ne HX.out.2.1 BX.out (by decide) hs_))
        have BV2 := Aside0.mk (blk_kept HX.out.2.2.1.v hk2 (fun hs_ => Kd.R_ne HX.out.2.1 HX.out.2.2.1.v (by decide) hs_))
        have BT2 := Aside0.mk (blk_kept HX.out.2.2.1.t hk2 (fun hs_ => Kd.R_ne HX.out.2.1 HX.out.2.2.1.t (by decide) hs_))
        have HO2 := Aside0.mk (Kd.R_mono (ok' := fun k_ => (P0_ k_ ∨ w.heap.size ≤ k_)) hr2 (fun k_ hk_ => Or.elim hk_ (fun hs_ => HX.out.2.1.1 k_ hs_.symm |> fun z => HOk.out k_ hs_.symm) (fun hn_ => .inr (Nat.le_trans HX.out.2.2.2.1 hn_))))
        have HK2 := Aside0.mk (Kept.then_ (S := (fun k_ => P0_ k_)) HX.out.2.2.2 hk2 (fun k_ hs_ => HOk.out k_ hs_.symm))
        have HB2 := Aside0.mk hb2
        clear hr2 hb2 hk2
        refine hK.out _ _ ⟨(blk_cell BV2.out 0).trans rfl, (blk_cell BT2.out 2).trans rfl, (blk_cell BX2.out 0).trans rfl, (blk_cell BX2.out 1).trans rfl, (blk_cell BX2.out 2).trans rfl, (blk_cell BX2.out 3).trans rfl⟩ (fun hHeld => ?_)
        clear hK K
        refine norm_ (a' := ?_) ?_ ?_
        rotate_left
        · show Act.put _ (some 32) _ = _
          simp only [Act.put, List.setIfInBounds_toArray, List.set_cons_zero, List.set_cons_succ, i64_w, i32_w]
          rfl
        refine pure_ (i := 10) (N := some 0) (v := ?_) (a' := ?_) #[true, true, true, true, true, true, true, true, true, true, true] rfl rfl (by kernel_rfl) (fun _ _ _ h => h) (Or.inl ⟨by rfl, ?_⟩) ?_ ?_
        rotate_left
        · intro w'
          go_simp
          with_reducible rfl
        rotate_left
        · simp only [Act.put, List.setIfInBounds_toArray, List.set_cons_zero, List.set_cons_succ, i64_w, i32_w]
          rfl
        refine done_ (by kernel_rfl) ?_

        try go_wp2
        go_roundg (gk - 1)
        case measure => have := HI.out; have := of_eq_true hi; omega
        case rel => exact ⟨i + 1, _, by first | rfl | rw [hw.out], ⟨by have := HI.out; have := of_eq_true hi; omega⟩, ⟨HY.out⟩, HO2, HB2, HK2, ⟨⟨BV2.out, BT2.out⟩⟩⟩

      · go_wp2
        have HX := Aside0.mk (show Below w0.heap.size w0 (wr.alloc (.cells #[.int .i64 3, .int .i64 xn, .string xs, .slice A3 xl.length c3] 24)).drew ∧ Kd.R (Kd.int .u8) 5 (wr.alloc (.cells #[.int .i64 3, .int .i64 xn, .string xs, .slice A3 xl.length c3] 24)).drew w0.heap.size (fun k_ => some k_ = u0.ownBlock) u0 ys ∧ IsW (wr.alloc (.cells #[.int .i64 3, .int .i64 xn, .string xs, .slice A3 xl.length c3] 24)).drew gv gw ∧ Kept w (wr.alloc (.cells #[.int .i64 3, .int .i64 xn, .string xs, .slice A3 xl.length c3] 24)).drew (fun k_ => P0_ k_) from ⟨below_drew1 (below_alloc HB.out _), Kd.R_drew (Kd.R_alloc (Kd.R_tight rfl HO.out) _), ⟨blk_drew (blk_alloc HW.out.v _), blk_drew (blk_alloc HW.out.t _)⟩, Kept.drew (Kept.alloc HK.out _)⟩)
        have HOk := Aside0.mk (show ∀ k_, u0.ownBlock = some k_ → (P0_ k_ ∨ w.heap.size ≤ k_) from HO.out.1)
        have BX := Aside0.mk (show (wr.alloc (.cells #[.int .i64 3, .int .i64 xn, .string xs, .slice A3 xl.length c3] 24)).drew.heap[wr.heap.size]? = some (.cells #[.int .i64 3, .int .i64 xn, .string xs, .slice A3 xl.length c3] 24 (0, 0)) from blk_drew (blk_new wr _))
        clear HB HO HW HK
        obtain ⟨gx, hgx⟩ : ∃ g : Nat, wr.heap.size = g := ⟨_, rfl⟩
        rw [hgx] at BX
        simp only [hgx]
        have hgx' := Aside0.mk hgx
        clear hgx
        refine start_ (n := 11) (S := fun w' => w'.cell? ⟨gv, 0, none⟩ = some (.pointer (some ⟨gw, 0, none⟩)) ∧ w'.cell? ⟨gw, 3, none⟩ = some (.func (Fn.func 37) #[] #[.pointer (some ⟨gv, 0, none⟩)]) ∧ w'.cell? ⟨gx, 0, none⟩ = some (.int .i64 3) ∧ w'.cell? ⟨gx, 1, none⟩ = some (.int .i64 xn) ∧ w'.cell? ⟨gx, 2, none⟩ = some (.string xs) ∧ w'.cell? ⟨gx, 3, none⟩ = some (.slice A3 xl.length c3)) (ds := []) #[false, false, false, false, false, false, false, false, false, false, false] (by kernel_rfl) rfl rfl ⟨(blk_cell HX.out.2.2.1.v 0).trans rfl, (blk_cell HX.out.2.2.1.t 3).trans rfl, (blk_cell BX.out 0).trans rfl, (blk_cell BX.out 1).trans rfl, (blk_cell BX.out 2).trans rfl, (blk_cell BX.out 3).trans rfl⟩ (fun hHeld => ?_)
        generalize (wr.alloc (.cells #[.int .i64 3, .int .i64 xn, .string xs, .slice A3 xl.length c3] 24)).drew = wx at HX BX hHeld ⊢
        refine take_ (i := 0) (N := some 23) (v := ?_) (a' := ?_) #[true, false, false, false, false, false, false, false, false, false, false] rfl rfl (by kernel_rfl) (fun _ _ _ h => h) (Or.inl ⟨by rfl, ?_⟩) hHeld ?_ ?_
        rotate_left
        · rintro w' ⟨s0, s1, s2, s3, s4, s5⟩
          go_simp
          with_reducible rfl
        rotate_left
        · simp only [Act.put, List.setIfInBounds_toArray, List.set_cons_zero, List.set_cons_succ, i64_w, i32_w]
          rfl
        refine pure_ (i := 1) (N := some 24) (v := ?_) (a' := ?_) #[true, true, false, false, false, false, false, false, false, false, false] rfl rfl (by kernel_rfl) (fun _ _ _ h => h) (Or.inl ⟨by rfl, ?_⟩) ?_ ?_
        rotate_left
        · intro w'
          go_simp
          with_reducible rfl
        rotate_left
        · simp only [Act.put, List.setIfInBounds_toArray, List.set_cons_zero, List.set_cons_succ, i64_w, i32_w]
          rfl
        refine take_ (i := 2) (N := some 25) (v := ?_) (a' := ?_) #[true, true, true, false, false, false, false, false, false, false, false] rfl rfl (by kernel_rfl) (fun _ _ _ h => h) (Or.inl ⟨by rfl, ?_⟩) hHeld ?_ ?_
        rotate_left
        · rintro w' ⟨s0, s1, s2, s3, s4, s5⟩
          go_simp
          with_reducible rfl
        rotate_left
        · simp only [Act.put, List.setIfInBounds_toArray, List.set_cons_zero, List.set_cons_succ, i64_w, i32_w]
          rfl
        refine pure_ (i := 3) (N := some 26) (v := ?_) (a' := ?_) #[true, true, true, true, false, false, false, false, false, false, false] rfl rfl (by kernel_rfl) (fun _ _ _ h => h) (Or.inl ⟨by rfl, ?_⟩) ?_ ?_
        rotate_left
        · intro w'
          go_simp
          with_reducible rfl
        rotate_left
        · simp only [Act.put, List.setIfInBounds_toArray, List.set_cons_zero, List.set_cons_succ, i64_w, i32_w]
          rfl
        refine pure_ (i := 4) (N := some 27) (v := ?_) (a' := ?_) #[true, true, true, true, true, false, false, false, false, false, false] rfl rfl (by kernel_rfl) (fun _ _ _ h => h) (Or.inl ⟨by rfl, ?_⟩) ?_ ?_
        rotate_left
        · intro w'
          go_simp
          with_reducible rfl
        rotate_left
        · simp only [Act.put, List.setIfInBounds_toArray, List.set_cons_zero, List.set_cons_succ, i64_w, i32_w]
          rfl
        refine pure_ (i := 5) (N := some 28) (v := ?_) (a' := ?_) #[true, true, true, true, true, true, false, false, false, false, false] rfl rfl (by kernel_rfl) (fun _ _ _ h => h) (Or.inl ⟨by rfl, ?_⟩) ?_ ?_
        rotate_left
        · intro w'
          go_simp
          with_reducible rfl
        rotate_left
        · simp only [Act.put, List.setIfInBounds_toArray, List.set_cons_zero, List.set_cons_succ, i64_w, i32_w]
          rfl
        refine take_ (i := 6) (N := some 29) (v := ?_) (a' := ?_) #[true, true, true, true, true, true, true, false, false, false, false] rfl rfl (by kernel_rfl) (fun _ _ _ h => h) (Or.inl ⟨by rfl, ?_⟩) hHeld ?_ ?_
        rotate_left
        · rintro w' ⟨s0, s1, s2, s3, s4, s5⟩
          go_simp
          with_reducible rfl
        rotate_left
        · simp only [Act.put, List.setIfInBounds_toArray, List.set_cons_zero, List.set_cons_succ, i64_w, i32_w]
          rfl
        refine pure_ (i := 7) (N := some 30) (v := ?_) (a' := ?_) #[true, true, true, true, true, true, true, true, false, false, false] rfl rfl (by kernel_rfl) (fun _ _ _ h => h) (Or.inl ⟨by rfl, ?_⟩) ?_ ?_
        rotate_left
        · intro w'
          go_simp
          with_reducible rfl
        rotate_left
        · simp only [Act.put, List.setIfInBounds_toArray, List.set_cons_zero, List.set_cons_succ, i64_w, i32_w]
          rfl
        refine take_ (i := 8) (N := some 31) (v := ?_) (a' := ?_) #[true, true, true, true, true, true, true, true, true, false, false] rfl rfl (by kernel_rfl) (fun _ _ _ h => h) (Or.inl ⟨by rfl, ?_⟩) hHeld ?_ ?_
        rotate_left
        · rintro w' ⟨s0, s1, s2, s3, s4, s5⟩
          go_simp
          with_reducible rfl
        rotate_left
        · simp only [Act.put, List.setIfInBounds_toArray, List.set_cons_zero, List.set_cons_succ, i64_w, i32_w]
          rfl
        refine one_ (i := 9) (N := some 32) #[true, true, true, true, true, true, true, true, true, true, false] rfl rfl (by kernel_rfl) (by decide) (fun K hK => ?_)
        refine goesV_ Try.func37 (by kernel_rfl) rfl #[u0, .agg #[.int .i64 3, .int .i64 xn, .string xs, .slice A3 xl.length c3], .pointer (some ⟨gv, 0, none⟩)] (by rfl) rfl rfl (by rfl) (by (try simp only [List.map_toArray, List.map_cons, List.map_nil]); first | done | rfl | simp) ?_
        refine (C.out wx HX.out.1 HX.out.2.1 HX.out.2.2.1).mono ?_
        rintro e w2 ⟨v2, rfl, hr2, hb2, hk2⟩
        refine ⟨_, rfl, ?_⟩
        have BX2 := Aside0.mk (blk_kept BX.out hk2 (fun hs_ => Kd.R_ne HX.out.2.1 BX.out (by decide) hs_))
        have BV2 := Aside0.mk (blk_kept HX.out.2.2.1.v hk2 (fun hs_ => Kd.R_ne HX.out.2.1 HX.out.2.2.1.v (by decide) hs_))
        have BT2 := Aside0.mk (blk_kept HX.out.2.2.1.t hk2 (fun hs_ => Kd.R_ne HX.out.2.1 HX.out.2.2.1.t (by decide) hs_))
        have HO2 := Aside0.mk (Kd.R_mono (ok' := fun k_ => (P0_ k_ ∨ w.heap.size ≤ k_)) hr2 (fun k_ hk_ => Or.elim hk_ (fun hs_ => HX.out.2.1.1 k_ hs_.symm |> fun z => HOk.out k_ hs_.symm) (fun hn_ => .inr (Nat.le_trans HX.out.2.2.2.1 hn_))))
        have HK2 := Aside0.mk (Kept.then_ (S := (fun k_ => P0_ k_)) HX.out.2.2.2 hk2 (fun k_ hs_ => HOk.out k_ hs_.symm))
        have HB2 := Aside0.mk hb2
        clear hr2 hb2 hk2
        refine hK.out _ _ ⟨(blk_cell BV2.out 0).trans rfl, (blk_cell BT2.out 3).trans rfl, (blk_cell BX2.out 0).trans rfl, (blk_cell BX2.out 1).trans rfl, (blk_cell BX2.out 2).trans rfl, (blk_cell BX2.out 3).trans rfl⟩ (fun hHeld => ?_)
        clear hK K
        refine norm_ (a' := ?_) ?_ ?_
        rotate_left
        · show Act.put _ (some 32) _ = _
          simp only [Act.put, List.setIfInBounds_toArray, List.set_cons_zero, List.set_cons_succ, i64_w, i32_w]
          rfl
        refine pure_ (i := 10) (N := some 0) (v := ?_) (a' := ?_) #[true, true, true, true, true, true, true, true, true, true, true] rfl rfl (by kernel_rfl) (fun _ _ _ h => h) (Or.inl ⟨by rfl, ?_⟩) ?_ ?_
        rotate_left
        · intro w'
          go_simp
          with_reducible rfl
        rotate_left
        · simp only [Act.put, List.setIfInBounds_toArray, List.set_cons_zero, List.set_cons_succ, i64_w, i32_w]
          rfl
        refine done_ (by kernel_rfl) ?_

        try go_wp2
        go_roundg (gk - 1)
        case measure => have := HI.out; have := of_eq_true hi; omega
        case rel => exact ⟨i + 1, _, by first | rfl | rw [hw.out], ⟨by have := HI.out; have := of_eq_true hi; omega⟩, ⟨HY.out⟩, HO2, HB2, HK2, ⟨⟨BV2.out, BT2.out⟩⟩⟩

    · have hi0 : decide (i < (l.length : Int)) = false := decide_eq_false hi
      have hy : ys = l0 ++ 3 :: (numL l.length ++ encL l) := by
        rw [← HE.out, List.drop_eq_nil_of_le (by omega), encL, List.append_nil]
      have HY := Aside0.mk hy
      clear hy
      go_wp2
      go_ret
      exact ⟨_, rfl, HY.out ▸ HO.out, HB.out, HK.out⟩
end Go.Proofs.Ytgnkjhppfenmaaa.Q
/- The contract of codec.Encode. -/
namespace Go.Proofs.Ytgnkjhppfenmaaa.Q
open Go.RowKit Go.Proofs.YtgnkjhppfenmaaaW.PrintWords Go.Proofs.YtgnkjhppfenmaaaW.PrintLast Go.Proofs.YtgnkjhppfenmaaaW.PrintMore
theorem k24_hp : Kd.Heap k24 := Kd.heap_fix (fun _ h_ => Kd.heap_iso _ (Kd.heap_pair (Kd.heap_int .i64) (Kd.heap_pair (Kd.heap_int .i64) (Kd.heap_pair Kd.heap_string (Kd.heap_slice 24 h_)))))
theorem writes_all : ∀ (n : Nat) (x : S24), SizeOf.sizeOf x < n → WriteSays x
  | 0, _, h => absurd h (by omega)
  | n + 1, ⟨k, m, s, l⟩, h => by
    intro P0_ u l0 A c w0 w gv gw hb hr hC hc hw hpv hpw hlen hf
    rcases kind_of_formed hf with hk | hk | hk
    · obtain rfl : k = 1 := hk
      have h2 := unsG_range m
      rw [encV_one] at hlen ⊢
      obtain ⟨q, hq⟩ := numeral_ev (unsG m).toNat (unsG m).toNat (l0 ++ [1]) (Nat.le_refl _) (by simp at hlen ⊢; omega)
      rw [Int.toNat_of_nonneg h2.1] at hq
      refine (codec_newWriter_1.calls q (fun k_ => some k_ = u.ownBlock) u l0 1 m s A c l (w0 := w0) (w := w) (hB := hb) (ho0 := Kd.R_tight rfl hr) (hr1_3 := Kd.C_kept_came k24_hp hC hb (fun k_ (hk_ : some k_ = u.ownBlock) => Kd.R_base hr k_ hk_.symm)) (hc1_3 := hc) (r := l0 ++ 1 :: numL (unsG m).toNat) ?_).mono ?_
      · unfold codec_newWriter_1.f
        rw [if_pos (by simp at hlen; omega), unsG_some, Option.bind_some, hq]
        simp
      · rintro e w' ⟨v, rfl, h3, h4, h5⟩
        exact ⟨v, rfl, Kd.R_mono h3 (fun k_ hk_ => hk_.elim (fun hs_ => .inl (hr.1 k_ hs_.symm)) .inr), h4, Kept.mono h5 (fun k_ hs_ => hr.1 k_ hs_.symm)⟩
    · obtain rfl : k = 2 := hk
      rw [encV_two] at hlen ⊢
      exact write2 P0_ u l0 2 m s A c l w0 w hb hr (by simp [bytesOf_length] at hlen; omega)
    · obtain rfl : k = 3 := hk
      rw [encV_three] at hlen ⊢
      exact write3 P0_ u l0 m s A c l w0 w gv gw hb hr hC hc hw hpv hpw (by simp at hlen; omega) (formed_list hf) (fun x hx => writes_all n x (by have h1 := List.sizeOf_lt_of_mem hx; have h2 : SizeOf.sizeOf (S24.mk 3 m s l) = 1 + SizeOf.sizeOf (3 : Int) + SizeOf.sizeOf m + SizeOf.sizeOf s + SizeOf.sizeOf l := (by simp); omega))
/-- the world behind newWriter -/
def newWriterWorld (w : World) : World := (w.alloc (.cells #[.nilFunc, .func (Fn.func 33) #[] #[], .func (Fn.func 36) #[] #[], .func (Fn.func 37) #[] #[.pointer (some ⟨w.heap.size + 1, 0, none⟩)]] 64)).alloc (.cells #[.pointer (some ⟨w.heap.size, 0, none⟩)] 48)
theorem newWriter_is (w : World) : IsW (newWriterWorld w) (w.heap.size + 1) w.heap.size := by
  refine ⟨?_, blk_alloc (blk_new _ _) _⟩
  have hs : (w.alloc (.cells #[.nilFunc, .func (Fn.func 33) #[] #[], .func (Fn.func 36) #[] #[], .func (Fn.func 37) #[] #[.pointer (some ⟨w.heap.size + 1, 0, none⟩)]] 64)).heap.size = w.heap.size + 1 := by simp
  have h2 := blk_new (w.alloc (.cells #[.nilFunc, .func (Fn.func 33) #[] #[], .func (Fn.func 36) #[] #[], .func (Fn.func 37) #[] #[.pointer (some ⟨w.heap.size + 1, 0, none⟩)]] 64)) (.cells #[.pointer (some ⟨w.heap.size, 0, none⟩)] 48)
  rw [hs] at h2
  exact h2
theorem newWriter_blk {w : World} {g : Nat} {o : Obj} (h : w.heap[g]? = some o) : (newWriterWorld w).heap[g]? = some o := blk_alloc (blk_alloc h _) _
theorem newWriter_below {w W : World} (h : Below w.heap.size w W) : Below w.heap.size w (newWriterWorld W) := below_alloc (below_alloc h _) _
set_option maxHeartbeats 2000000 in
set_option maxRecDepth 100000 in
theorem newWriter_any (w : World) : Calls Try.prog 22 #[] w fun e w' => e = .returned (.pointer (some ⟨w.heap.size, 0, none⟩)) ∧ w' = newWriterWorld w := by
  have hmf : ∀ (fn : Fn) (first cap : Array Value) (w : World), (Instr.makeFunc fn first cap).run Try.prog w = .ok (.func fn first cap) w := fun _ _ _ _ => rfl
  go_enter Try.func22, Try.ntmps22
  go_wp2
  go_ret
  exact ⟨rfl, rfl⟩

/-- what Check answers -/
def checkV (x : S24) : Int := if (formedV x).2 = true then (if (formedV x).1 > 16 then 2 else 0) else 1
theorem check_zero {x : S24} (h : checkV x = 0) : (formedV x).2 = true := by
  unfold checkV at h
  split at h
  · assumption
  · cases h
theorem check_eq (k n : Int) (s : ByteArray) (l : List S24) : codec_Check.f k n s l = some (checkV ⟨k, n, s, l⟩) := by
  unfold codec_Check.f codec_formed.f checkV
  cases e : formedV ⟨k, n, s, l⟩ with
  | mk d ok => cases ok <;> simp [e] <;> split <;> simp_all
def codec_Encode.f (a0_0 : Int) (a0_1 : Int) (a0_2 : ByteArray) (l0_3 : List (S24)) : Option (List Int × Int) :=
  if checkV ⟨a0_0, a0_1, a0_2, l0_3⟩ = 0 then (if (encV ⟨a0_0, a0_1, a0_2, l0_3⟩).length < 140737488355328 then some (encV ⟨a0_0, a0_1, a0_2, l0_3⟩, 0) else none) else some ([], checkV ⟨a0_0, a0_1, a0_2, l0_3⟩)
set_option maxHeartbeats 8000000 in
set_option maxRecDepth 100000 in
theorem encode_at (k1 : Int) (n1 : Int) (s : ByteArray) (A : Option Addr) (c : Nat) (l : List (S24)) (r1 : List Int) (r2 : Int) (w : World) (hC : Kd.C k24 w A l.length l) (hc : l.length ≤ c) (h : codec_Encode.f k1 n1 s l = some (r1, r2)) :
    Calls Try.prog 8 #[.agg #[.int .i64 k1, .int .i64 n1, .string s, .slice A l.length c]] w fun e w' => ∃ v0_ : Value, e = .returned (.tuple #[v0_, .int .i64 r2]) ∧ Kd.R (Kd.int .u8) 5 w' w.heap.size (fun _ => True) v0_ r1 ∧ Below w.heap.size w w' := by
  have hu24 := Try.underlying24
  have hck := Aside0.mk (check_eq k1 n1 s l)
  have HC := Aside0.mk hC
  clear hC
  obtain ⟨cv, hcv⟩ : ∃ e, checkV ⟨k1, n1, s, l⟩ = e := ⟨_, rfl⟩
  rw [hcv] at hck
  have HV := Aside0.mk hcv
  unfold codec_Encode.f at h
  rw [hcv] at h
  clear hcv
  have HB := Aside0.mk (Below.refl w.heap.size w)
  go_enter Try.func8, Try.ntmps8
  go_upto_region 2 with (first | ((with_reducible refine gate_dst (N := 1) rfl ?_); refine box_event ?hg (N := 1) ?hd (cs := #[.int .i64 k1, .int .i64 n1, .string s, .slice A l.length c]) (t := 24) ?hr ?_; (case hd => rfl); (case hg => rfl); (case hr => first | (go_simp; done) | (go_simp; rfl)); intro gb hg w4 hbox hb; have HB' := Aside0.mk (below_step HB.out hb); have BK := Aside0.mk hbox; clear HB hg hbox hb; have HB := HB'; clear HB'; have hz0 : w4.cell? ⟨gb, 0, none⟩ = some (.int .i64 k1) := (blk_cell BK.out 0).trans rfl; have hz1 : w4.cell? ⟨gb, 1, none⟩ = some (.int .i64 n1) := (blk_cell BK.out 1).trans rfl; have hz2 : w4.cell? ⟨gb, 2, none⟩ = some (.string s) := (blk_cell BK.out 2).trans rfl; have hz3 : w4.cell? ⟨gb, 3, none⟩ = some (.slice A l.length c) := (blk_cell BK.out 3).trans rfl) | (go_at_call 12; (refine (codec_Check.calls k1 n1 s A c l cv _ (Kd.C_below HC.out HB.out) hc hck.out).mono ?_); rintro e w5 ⟨rfl, hb⟩; have HB' := Aside0.mk (below_step HB.out hb); have BK' := Aside0.mk (blk_below BK.out hb); clear HB BK hb hz0 hz1 hz2 hz3; have HB := HB'; have BK := BK'; clear HB' BK'))
  by_cases h0 : cv = 0
  · subst h0
    rw [if_pos rfl] at h
    split at h
    · next hlt =>
      have h2 := Option.some.inj h
      obtain ⟨rfl, rfl⟩ := Prod.mk.inj h2
      clear h h2
      have hfm : Aside0 ((formedV ⟨k1, n1, s, l⟩).2 = true) := ⟨check_zero HV.out⟩
      have hsay := writes_all _ ⟨k1, n1, s, l⟩ (Nat.lt_succ_self _)
      have hlen : Aside0 (([] : List Int).length + (encV ⟨k1, n1, s, l⟩).length < 140737488355328) := ⟨by simpa using hlt⟩
      clear hlt
      go_wp2
      replace BK := Aside0.mk (blk_drew BK.out)
      replace HB := Aside0.mk (below_drew1 HB.out)
      rcases kind_of_formed hfm.out with hk | hk | hk
      · obtain rfl : k1 = 1 := hk
        refine start_ (n := 11) (S := fun w' => w'.cell? ⟨gb, 0, none⟩ = some (.int .i64 1) ∧ w'.cell? ⟨gb, 1, none⟩ = some (.int .i64 n1) ∧ w'.cell? ⟨gb, 2, none⟩ = some (.string s) ∧ w'.cell? ⟨gb, 3, none⟩ = some (.slice A l.length c)) (ds := []) #[false, false, false, false, false, false, false, false, false, false, false] (by kernel_rfl) rfl rfl ⟨(blk_cell BK.out 0).trans rfl, (blk_cell BK.out 1).trans rfl, (blk_cell BK.out 2).trans rfl, (blk_cell BK.out 3).trans rfl⟩ (fun hHeld => ?_)
        generalize w5.drew = wx at BK HB hHeld ⊢
        refine pure_ (i := 1) (N := some 11) (v := ?_) (a' := ?_) #[false, true, false, false, false, false, false, false, false, false, false] rfl rfl (by kernel_rfl) (fun _ _ _ h => h) (Or.inl ⟨by rfl, ?_⟩) ?_ ?_
        rotate_left
        · intro w'
          go_simp
          with_reducible rfl
        rotate_left
        · simp only [Act.put, List.setIfInBounds_toArray, List.set_cons_zero, List.set_cons_succ, i64_w, i32_w]
          rfl
        refine take_ (i := 2) (N := some 12) (v := ?_) (a' := ?_) #[false, true, true, false, false, false, false, false, false, false, false] rfl rfl (by kernel_rfl) (fun _ _ _ h => h) (Or.inl ⟨by rfl, ?_⟩) hHeld ?_ ?_
        rotate_left
        · rintro w' ⟨s0, s1, s2, s3⟩
          go_simp
          with_reducible rfl
        rotate_left
        · simp only [Act.put, List.setIfInBounds_toArray, List.set_cons_zero, List.set_cons_succ, i64_w, i32_w]
          rfl
        refine take_ (i := 7) (N := some 17) (v := ?_) (a' := ?_) #[false, true, true, false, false, false, false, true, false, false, false] rfl rfl (by kernel_rfl) (fun _ _ _ h => h) (Or.inl ⟨by rfl, ?_⟩) hHeld ?_ ?_
        rotate_left
        · rintro w' ⟨s0, s1, s2, s3⟩
          go_simp
          with_reducible rfl
        rotate_left
        · simp only [Act.put, List.setIfInBounds_toArray, List.set_cons_zero, List.set_cons_succ, i64_w, i32_w]
          rfl
        refine one_ (i := 0) (N := some 10) #[true, true, true, false, false, false, false, true, false, false, false] rfl rfl (by kernel_rfl) (by decide) (fun K hK => ?_)
        refine goes_ Try.func22 (by kernel_rfl) rfl #[] (by rfl) rfl rfl (by first | rfl | simp) ?_
        refine (newWriter_any _).mono ?_
        rintro e w2 ⟨rfl, rfl⟩
        refine ⟨_, rfl, ?_⟩
        have BK2 := Aside0.mk (newWriter_blk BK.out)
        have HW := Aside0.mk (newWriter_is wx)
        have HB2 := Aside0.mk (newWriter_below HB.out)
        have hcw := (blk_cell HW.out.t 1).trans rfl
        have hcw2 : (newWriterWorld wx).cell? ⟨wx.heap.size, 1, none⟩ = some (.func (Fn.func 33) #[] #[]) := hcw
        clear hcw
        change K _ (newWriterWorld wx)
        generalize newWriterWorld wx = w2 at BK2 HW HB2 hcw2 ⊢
        refine hK.out _ _ ⟨(blk_cell BK2.out 0).trans rfl, (blk_cell BK2.out 1).trans rfl, (blk_cell BK2.out 2).trans rfl, (blk_cell BK2.out 3).trans rfl⟩ (fun hHeld => ?_)
        clear hK K
        refine norm_ (a' := ?_) ?_ ?_
        rotate_left
        · show Act.put _ (some 10) _ = _
          simp only [Act.put, List.setIfInBounds_toArray, List.set_cons_zero, List.set_cons_succ, i64_w, i32_w]
          rfl
        refine pure_ (i := 3) (N := some 13) (v := ?_) (a' := ?_) #[true, true, true, true, false, false, false, true, false, false, false] rfl rfl (by kernel_rfl) (fun _ _ _ h => h) (Or.inl ⟨by rfl, ?_⟩) ?_ ?_
        rotate_left
        · intro w'
          go_simp
          with_reducible rfl
        rotate_left
        · simp only [Act.put, List.setIfInBounds_toArray, List.set_cons_zero, List.set_cons_succ, i64_w, i32_w]
          rfl
        refine pure_ (i := 4) (N := some 14) (v := ?_) (a' := ?_) #[true, true, true, true, true, false, false, true, false, false, false] rfl rfl (by kernel_rfl) (fun _ _ _ h => h) (Or.inl ⟨by rfl, ?_⟩) ?_ ?_
        rotate_left
        · intro w'
          go_simp
          with_reducible rfl
        rotate_left
        · simp only [Act.put, List.setIfInBounds_toArray, List.set_cons_zero, List.set_cons_succ, i64_w, i32_w]
          rfl
        refine pure_ (i := 5) (N := some 15) (v := ?_) (a' := ?_) #[true, true, true, true, true, true, false, true, false, false, false] rfl rfl (by kernel_rfl) (fun _ _ _ h => h) (Or.inl ⟨by rfl, ?_⟩) ?_ ?_
        rotate_left
        · intro w'
          go_simp
          with_reducible rfl
        rotate_left
        · simp only [Act.put, List.setIfInBounds_toArray, List.set_cons_zero, List.set_cons_succ, i64_w, i32_w]
          rfl
        refine one_ (i := 6) (N := some 16) #[true, true, true, true, true, true, true, true, false, false, false] rfl rfl (by kernel_rfl) (by decide) (fun K hK => ?_)
        refine value_ (w1 := ?_) (v := ?_) (by rfl) rfl ?_ ?_
        rotate_left 2
        · go_simp
          constructor
          · rfl
          · rfl
        refine hK.out _ _ ⟨(blk_cell BK2.out 0).trans rfl, (blk_cell BK2.out 1).trans rfl, (blk_cell BK2.out 2).trans rfl, (blk_cell BK2.out 3).trans rfl⟩ (fun hHeld => ?_)
        clear hK K
        refine norm_ (a' := ?_) ?_ ?_
        rotate_left
        · show Act.put _ (some 16) _ = _
          simp only [Act.put, List.setIfInBounds_toArray, List.set_cons_zero, List.set_cons_succ, i64_w, i32_w]
          rfl
        refine one_ (i := 8) (N := some 18) #[true, true, true, true, true, true, true, true, true, false, false] rfl rfl (by kernel_rfl) (by decide) (fun K hK => ?_)
        refine goesV_ Try.func33 (by kernel_rfl) rfl #[.slice none 0 0, .agg #[.int .i64 1, .int .i64 n1, .string s, .slice A l.length c]] (by rfl) rfl rfl (by rfl) (by (try simp only [List.map_toArray, List.map_cons, List.map_nil]); first | done | rfl | simp) ?_
        refine (hsay (fun _ => False) (.slice none 0 0) [] A c w w2 (wx.heap.size + 1) wx.heap.size HB2.out (Kd.R_nil _ _ _ _ _) HC.out hc HW.out id id hlen.out hfm.out).mono ?_
        rintro e w3 ⟨v2, rfl, hr3, hb3, hk3⟩
        refine ⟨_, rfl, ?_⟩
        have BK3 := Aside0.mk (blk_kept BK2.out hk3 (fun hs_ => hs_))
        have HR3 := Aside0.mk hr3
        have HB3 := Aside0.mk hb3
        clear hr3 hb3 hk3
        refine hK.out _ _ ⟨(blk_cell BK3.out 0).trans rfl, (blk_cell BK3.out 1).trans rfl, (blk_cell BK3.out 2).trans rfl, (blk_cell BK3.out 3).trans rfl⟩ (fun hHeld => ?_)
        clear hK K
        refine norm_ (a' := ?_) ?_ ?_
        rotate_left
        · show Act.put _ (some 18) _ = _
          simp only [Act.put, List.setIfInBounds_toArray, List.set_cons_zero, List.set_cons_succ, i64_w, i32_w]
          rfl
        refine pure_ (i := 9) (N := some 2) (v := ?_) (a' := ?_) #[true, true, true, true, true, true, true, true, true, true, false] rfl rfl (by kernel_rfl) (fun _ _ _ h => h) (Or.inl ⟨by rfl, ?_⟩) ?_ ?_
        rotate_left
        · intro w'
          go_simp
          with_reducible rfl
        rotate_left
        · simp only [Act.put, List.setIfInBounds_toArray, List.set_cons_zero, List.set_cons_succ, i64_w, i32_w]
          rfl
        refine pure_ (i := 10) (N := some 3) (v := ?_) (a' := ?_) #[true, true, true, true, true, true, true, true, true, true, true] rfl rfl (by kernel_rfl) (fun _ _ _ h => h) (Or.inl ⟨by rfl, ?_⟩) ?_ ?_
        rotate_left
        · intro w'
          go_simp
          with_reducible rfl
        rotate_left
        · simp only [Act.put, List.setIfInBounds_toArray, List.set_cons_zero, List.set_cons_succ, i64_w, i32_w]
          rfl
        refine done_ (by kernel_rfl) ?_
        try go_wp2
        go_ret2
        exact ⟨_, rfl, Kd.R_mono HR3.out (fun _ _ => trivial), HB3.out⟩
      · obtain rfl : k1 = 2 := hk
        refine start_ (n := 11) (S := fun w' => w'.cell? ⟨gb, 0, none⟩ = some (.int .i64 2) ∧ w'.cell? ⟨gb, 1, none⟩ = some (.int .i64 n1) ∧ w'.cell? ⟨gb, 2, none⟩ = some (.string s) ∧ w'.cell? ⟨gb, 3, none⟩ = some (.slice A l.length c)) (ds := []) #[false, false, false, false, false, false, false, false, false, false, false] (by kernel_rfl) rfl rfl ⟨(blk_cell BK.out 0).trans rfl, (blk_cell BK.out 1).trans rfl, (blk_cell BK.out 2).trans rfl, (blk_cell BK.out 3).trans rfl⟩ (fun hHeld => ?_)
        generalize w5.drew = wx at BK HB hHeld ⊢
        refine pure_ (i := 1) (N := some 11) (v := ?_) (a' := ?_) #[false, true, false, false, false, false, false, false, false, false, false] rfl rfl (by kernel_rfl) (fun _ _ _ h => h) (Or.inl ⟨by rfl, ?_⟩) ?_ ?_
        rotate_left
        · intro w'
          go_simp
          with_reducible rfl
        rotate_left
        · simp only [Act.put, List.setIfInBounds_toArray, List.set_cons_zero, List.set_cons_succ, i64_w, i32_w]
          rfl
        refine take_ (i := 2) (N := some 12) (v := ?_) (a' := ?_) #[false, true, true, false, false, false, false, false, false, false, false] rfl rfl (by kernel_rfl) (fun _ _ _ h => h) (Or.inl ⟨by rfl, ?_⟩) hHeld ?_ ?_
        rotate_left
        · rintro w' ⟨s0, s1, s2, s3⟩
          go_simp
          with_reducible rfl
        rotate_left
        · simp only [Act.put, List.setIfInBounds_toArray, List.set_cons_zero, List.set_cons_succ, i64_w, i32_w]
          rfl
        refine take_ (i := 7) (N := some 17) (v := ?_) (a' := ?_) #[false, true, true, false, false, false, false, true, false, false, false] rfl rfl (by kernel_rfl) (fun _ _ _ h => h) (Or.inl ⟨by rfl, ?_⟩) hHeld ?_ ?_
        rotate_left
        · rintro w' ⟨s0, s1, s2, s3⟩
          go_simp
          with_reducible rfl
        rotate_left
        · simp only [Act.put, List.setIfInBounds_toArray, List.set_cons_zero, List.set_cons_succ, i64_w, i32_w]
          rfl
        refine one_ (i := 0) (N := some 10) #[true, true, true, false, false, false, false, true, false, false, false] rfl rfl (by kernel_rfl) (by decide) (fun K hK => ?_)
        refine goes_ Try.func22 (by kernel_rfl) rfl #[] (by rfl) rfl rfl (by first | rfl | simp) ?_
        refine (newWriter_any _).mono ?_
        rintro e w2 ⟨rfl, rfl⟩
        refine ⟨_, rfl, ?_⟩
        have BK2 := Aside0.mk (newWriter_blk BK.out)
        have HW := Aside0.mk (newWriter_is wx)
        have HB2 := Aside0.mk (newWriter_below HB.out)
        have hcw := (blk_cell HW.out.t 2).trans rfl
        have hcw2 : (newWriterWorld wx).cell? ⟨wx.heap.size, 2, none⟩ = some (.func (Fn.func 36) #[] #[]) := hcw
        clear hcw
        change K _ (newWriterWorld wx)
        generalize newWriterWorld wx = w2 at BK2 HW HB2 hcw2 ⊢
        refine hK.out _ _ ⟨(blk_cell BK2.out 0).trans rfl, (blk_cell BK2.out 1).trans rfl, (blk_cell BK2.out 2).trans rfl, (blk_cell BK2.out 3).trans rfl⟩ (fun hHeld => ?_)
        clear hK K
        refine norm_ (a' := ?_) ?_ ?_
        rotate_left
        · show Act.put _ (some 10) _ = _
          simp only [Act.put, List.setIfInBounds_toArray, List.set_cons_zero, List.set_cons_succ, i64_w, i32_w]
          rfl
        refine pure_ (i := 3) (N := some 13) (v := ?_) (a' := ?_) #[true, true, true, true, false, false, false, true, false, false, false] rfl rfl (by kernel_rfl) (fun _ _ _ h => h) (Or.inl ⟨by rfl, ?_⟩) ?_ ?_
        rotate_left
        · intro w'
          go_simp
          with_reducible rfl
        rotate_left
        · simp only [Act.put, List.setIfInBounds_toArray, List.set_cons_zero, List.set_cons_succ, i64_w, i32_w]
          rfl
        refine pure_ (i := 4) (N := some 14) (v := ?_) (a' := ?_) #[true, true, true, true, true, false, false, true, false, false, false] rfl rfl (by kernel_rfl) (fun _ _ _ h => h) (Or.inl ⟨by rfl, ?_⟩) ?_ ?_
        rotate_left
        · intro w'
          go_simp
          with_reducible rfl
        rotate_left
        · simp only [Act.put, List.setIfInBounds_toArray, List.set_cons_zero, List.set_cons_succ, i64_w, i32_w]
          rfl
        refine pure_ (i := 5) (N := some 15) (v := ?_) (a' := ?_) #[true, true, true, true, true, true, false, true, false, false, false] rfl rfl (by kernel_rfl) (fun _ _ _ h => h) (Or.inl ⟨by rfl, ?_⟩) ?_ ?_
        rotate_left
        · intro w'
          go_simp
          with_reducible rfl
        rotate_left
        · simp only [Act.put, List.setIfInBounds_toArray, List.set_cons_zero, List.set_cons_succ, i64_w, i32_w]
          rfl
        refine one_ (i := 6) (N := some 16) #[true, true, true, true, true, true, true, true, false, false, false] rfl rfl (by kernel_rfl) (by decide) (fun K hK => ?_)
        refine value_ (w1 := ?_) (v := ?_) (by rfl) rfl ?_ ?_
        rotate_left 2
        · go_simp
          constructor
          · rfl
          · rfl
        refine hK.out _ _ ⟨(blk_cell BK2.out 0).trans rfl, (blk_cell BK2.out 1).trans rfl, (blk_cell BK2.out 2).trans rfl, (blk_cell BK2.out 3).trans rfl⟩ (fun hHeld => ?_)
        clear hK K
        refine norm_ (a' := ?_) ?_ ?_
        rotate_left
        · show Act.put _ (some 16) _ = _
          simp only [Act.put, List.setIfInBounds_toArray, List.set_cons_zero, List.set_cons_succ, i64_w, i32_w]
          rfl
        refine one_ (i := 8) (N := some 18) #[true, true, true, true, true, true, true, true, true, false, false] rfl rfl (by kernel_rfl) (by decide) (fun K hK => ?_)
        refine goesV_ Try.func36 (by kernel_rfl) rfl #[.slice none 0 0, .agg #[.int .i64 2, .int .i64 n1, .string s, .slice A l.length c]] (by rfl) rfl rfl (by rfl) (by (try simp only [List.map_toArray, List.map_cons, List.map_nil]); first | done | rfl | simp) ?_
        refine (hsay (fun _ => False) (.slice none 0 0) [] A c w w2 (wx.heap.size + 1) wx.heap.size HB2.out (Kd.R_nil _ _ _ _ _) HC.out hc HW.out id id hlen.out hfm.out).mono ?_
        rintro e w3 ⟨v2, rfl, hr3, hb3, hk3⟩
        refine ⟨_, rfl, ?_⟩
        have BK3 := Aside0.mk (blk_kept BK2.out hk3 (fun hs_ => hs_))
        have HR3 := Aside0.mk hr3
        have HB3 := Aside0.mk hb3
        clear hr3 hb3 hk3
        refine hK.out _ _ ⟨(blk_cell BK3.out 0).trans rfl, (blk_cell BK3.out 1).trans rfl, (blk_cell BK3.out 2).trans rfl, (blk_cell BK3.out 3).trans rfl⟩ (fun hHeld => ?_)
        clear hK K
        refine norm_ (a' := ?_) ?_ ?_
        rotate_left
        · show Act.put _ (some 18) _ = _
          simp only [Act.put, List.setIfInBounds_toArray, List.set_cons_zero, List.set_cons_succ, i64_w, i32_w]
          rfl
        refine pure_ (i := 9) (N := some 2) (v := ?_) (a' := ?_) #[true, true, true, true, true, true, true, true, true, true, false] rfl rfl (by kernel_rfl) (fun _ _ _ h => h) (Or.inl ⟨by rfl, ?_⟩) ?_ ?_
        rotate_left
        · intro w'
          go_simp
          with_reducible rfl
        rotate_left
        · simp only [Act.put, List.setIfInBounds_toArray, List.set_cons_zero, List.set_cons_succ, i64_w, i32_w]
          rfl
        refine pure_ (i := 10) (N := some 3) (v := ?_) (a' := ?_) #[true, true, true, true, true, true, true, true, true, true, true] rfl rfl (by kernel_rfl) (fun _ _ _ h => h) (Or.inl ⟨by rfl, ?_⟩) ?_ ?_
        rotate_left
        · intro w'
          go_simp
          with_reducible rfl
        rotate_left
        · simp only [Act.put, List.setIfInBounds_toArray, List.set_cons_zero, List.set_cons_succ, i64_w, i32_w]
          rfl
        refine done_ (by kernel_rfl) ?_
        try go_wp2
        go_ret2
        exact ⟨_, rfl, Kd.R_mono HR3.out (fun _ _ => trivial), HB3.out⟩
      · obtain rfl : k1 = 3 := hk
        refine start_ (n := 11) (S := fun w' => w'.cell? ⟨gb, 0, none⟩ = some (.int .i64 3) ∧ w'.cell? ⟨gb, 1, none⟩ = some (.int .i64 n1) ∧ w'.cell? ⟨gb, 2, none⟩ = some (.string s) ∧ w'.cell? ⟨gb, 3, none⟩ = some (.slice A l.length c)) (ds := []) #[false, false, false, false, false, false, false, false, false, false, false] (by kernel_rfl) rfl rfl ⟨(blk_cell BK.out 0).trans rfl, (blk_cell BK.out 1).trans rfl, (blk_cell BK.out 2).trans rfl, (blk_cell BK.out 3).trans rfl⟩ (fun hHeld => ?_)
        generalize w5.drew = wx at BK HB hHeld ⊢
        refine pure_ (i := 1) (N := some 11) (v := ?_) (a' := ?_) #[false, true, false, false, false, false, false, false, false, false, false] rfl rfl (by kernel_rfl) (fun _ _ _ h => h) (Or.inl ⟨by rfl, ?_⟩) ?_ ?_
        rotate_left
        · intro w'
          go_simp
          with_reducible rfl
        rotate_left
        · simp only [Act.put, List.setIfInBounds_toArray, List.set_cons_zero, List.set_cons_succ, i64_w, i32_w]
          rfl
        refine take_ (i := 2) (N := some 12) (v := ?_) (a' := ?_) #[false, true, true, false, false, false, false, false, false, false, false] rfl rfl (by kernel_rfl) (fun _ _ _ h => h) (Or.inl ⟨by rfl, ?_⟩) hHeld ?_ ?_
        rotate_left
        · rintro w' ⟨s0, s1, s2, s3⟩
          go_simp
          with_reducible rfl
        rotate_left
        · simp only [Act.put, List.setIfInBounds_toArray, List.set_cons_zero, List.set_cons_succ, i64_w, i32_w]
          rfl
        refine take_ (i := 7) (N := some 17) (v := ?_) (a' := ?_) #[false, true, true, false, false, false, false, true, false, false, false] rfl rfl (by kernel_rfl) (fun _ _ _ h => h) (Or.inl ⟨by rfl, ?_⟩) hHeld ?_ ?_
        rotate_left
        · rintro w' ⟨s0, s1, s2, s3⟩
          go_simp
          with_reducible rfl
        rotate_left
        · simp only [Act.put, List.setIfInBounds_toArray, List.set_cons_zero, List.set_cons_succ, i64_w, i32_w]
          rfl
        refine one_ (i := 0) (N := some 10) #[true, true, true, false, false, false, false, true, false, false, false] rfl rfl (by kernel_rfl) (by decide) (fun K hK => ?_)
        refine goes_ Try.func22 (by kernel_rfl) rfl #[] (by rfl) rfl rfl (by first | rfl | simp) ?_
        refine (newWriter_any _).mono ?_
        rintro e w2 ⟨rfl, rfl⟩
        refine ⟨_, rfl, ?_⟩
        have BK2 := Aside0.mk (newWriter_blk BK.out)
        have HW := Aside0.mk (newWriter_is wx)
        have HB2 := Aside0.mk (newWriter_below HB.out)
        have hcw := (blk_cell HW.out.t 3).trans rfl
        have hcw2 : (newWriterWorld wx).cell? ⟨wx.heap.size, 3, none⟩ = some (.func (Fn.func 37) #[] #[.pointer (some ⟨wx.heap.size + 1, 0, none⟩)]) := hcw
        clear hcw
        change K _ (newWriterWorld wx)
        generalize newWriterWorld wx = w2 at BK2 HW HB2 hcw2 ⊢
        refine hK.out _ _ ⟨(blk_cell BK2.out 0).trans rfl, (blk_cell BK2.out 1).trans rfl, (blk_cell BK2.out 2).trans rfl, (blk_cell BK2.out 3).trans rfl⟩ (fun hHeld => ?_)
        clear hK K
        refine norm_ (a' := ?_) ?_ ?_
        rotate_left
        · show Act.put _ (some 10) _ = _
          simp only [Act.put, List.setIfInBounds_toArray, List.set_cons_zero, List.set_cons_succ, i64_w, i32_w]
          rfl
        refine pure_ (i := 3) (N := some 13) (v := ?_) (a' := ?_) #[true, true, true, true, false, false, false, true, false, false, false] rfl rfl (by kernel_rfl) (fun _ _ _ h => h) (Or.inl ⟨by rfl, ?_⟩) ?_ ?_
        rotate_left
        · intro w'
          go_simp
          with_reducible rfl
        rotate_left
        · simp only [Act.put, List.setIfInBounds_toArray, List.set_cons_zero, List.set_cons_succ, i64_w, i32_w]
          rfl
        refine pure_ (i := 4) (N := some 14) (v := ?_) (a' := ?_) #[true, true, true, true, true, false, false, true, false, false, false] rfl rfl (by kernel_rfl) (fun _ _ _ h => h) (Or.inl ⟨by rfl, ?_⟩) ?_ ?_
        rotate_left
        · intro w'
          go_simp
          with_reducible rfl
        rotate_left
        · simp only [Act.put, List.setIfInBounds_toArray, List.set_cons_zero, List.set_cons_succ, i64_w, i32_w]
          rfl
        refine pure_ (i := 5) (N := some 15) (v := ?_) (a' := ?_) #[true, true, true, true, true, true, false, true, false, false, false] rfl rfl (by kernel_rfl) (fun _ _ _ h => h) (Or.inl ⟨by rfl, ?_⟩) ?_ ?_
        rotate_left
        · intro w'
          go_simp
          with_reducible rfl
        rotate_left
        · simp only [Act.put, List.setIfInBounds_toArray, List.set_cons_zero, List.set_cons_succ, i64_w, i32_w]
          rfl
        refine one_ (i := 6) (N := some 16) #[true, true, true, true, true, true, true, true, false, false, false] rfl rfl (by kernel_rfl) (by decide) (fun K hK => ?_)
        refine value_ (w1 := ?_) (v := ?_) (by rfl) rfl ?_ ?_
        rotate_left 2
        · go_simp
          constructor
          · rfl
          · rfl
        refine hK.out _ _ ⟨(blk_cell BK2.out 0).trans rfl, (blk_cell BK2.out 1).trans rfl, (blk_cell BK2.out 2).trans rfl, (blk_cell BK2.out 3).trans rfl⟩ (fun hHeld => ?_)
        clear hK K
        refine norm_ (a' := ?_) ?_ ?_
        rotate_left
        · show Act.put _ (some 16) _ = _
          simp only [Act.put, List.setIfInBounds_toArray, List.set_cons_zero, List.set_cons_succ, i64_w, i32_w]
          rfl
        refine one_ (i := 8) (N := some 18) #[true, true, true, true, true, true, true, true, true, false, false] rfl rfl (by kernel_rfl) (by decide) (fun K hK => ?_)
        refine goesV_ Try.func37 (by kernel_rfl) rfl #[.slice none 0 0, .agg #[.int .i64 3, .int .i64 n1, .string s, .slice A l.length c], .pointer (some ⟨wx.heap.size + 1, 0, none⟩)] (by rfl) rfl rfl (by rfl) (by (try simp only [List.map_toArray, List.map_cons, List.map_nil]); first | done | rfl | simp) ?_
        refine (hsay (fun _ => False) (.slice none 0 0) [] A c w w2 (wx.heap.size + 1) wx.heap.size HB2.out (Kd.R_nil _ _ _ _ _) HC.out hc HW.out id id hlen.out hfm.out).mono ?_
        rintro e w3 ⟨v2, rfl, hr3, hb3, hk3⟩
        refine ⟨_, rfl, ?_⟩
        have BK3 := Aside0.mk (blk_kept BK2.out hk3 (fun hs_ => hs_))
        have HR3 := Aside0.mk hr3
        have HB3 := Aside0.mk hb3
        clear hr3 hb3 hk3
        refine hK.out _ _ ⟨(blk_cell BK3.out 0).trans rfl, (blk_cell BK3.out 1).trans rfl, (blk_cell BK3.out 2).trans rfl, (blk_cell BK3.out 3).trans rfl⟩ (fun hHeld => ?_)
        clear hK K
        refine norm_ (a' := ?_) ?_ ?_
        rotate_left
        · show Act.put _ (some 18) _ = _
          simp only [Act.put, List.setIfInBounds_toArray, List.set_cons_zero, List.set_cons_succ, i64_w, i32_w]
          rfl
        refine pure_ (i := 9) (N := some 2) (v := ?_) (a' := ?_) #[true, true, true, true, true, true, true, true, true, true, false] rfl rfl (by kernel_rfl) (fun _ _ _ h => h) (Or.inl ⟨by rfl, ?_⟩) ?_ ?_
        rotate_left
        · intro w'
          go_simp
          with_reducible rfl
        rotate_left
        · simp only [Act.put, List.setIfInBounds_toArray, List.set_cons_zero, List.set_cons_succ, i64_w, i32_w]
          rfl
        refine pure_ (i := 10) (N := some 3) (v := ?_) (a' := ?_) #[true, true, true, true, true, true, true, true, true, true, true] rfl rfl (by kernel_rfl) (fun _ _ _ h => h) (Or.inl ⟨by rfl, ?_⟩) ?_ ?_
        rotate_left
        · intro w'
          go_simp
          with_reducible rfl
        rotate_left
        · simp only [Act.put, List.setIfInBounds_toArray, List.set_cons_zero, List.set_cons_succ, i64_w, i32_w]
          rfl
        refine done_ (by kernel_rfl) ?_
        try go_wp2
        go_ret2
        exact ⟨_, rfl, Kd.R_mono HR3.out (fun _ _ => trivial), HB3.out⟩
    · cases h
  · rw [if_neg h0] at h
    have h2 := Option.some.inj h
    obtain ⟨rfl, hv⟩ := Prod.mk.inj h2
    subst hv
    clear h h2
    have h0b : (cv == 0) = false := beq_eq_false_iff_ne.mpr h0
    have h0c : (cv != 0) = true := bne_iff_ne.mpr h0
    clear h0
    go_wp2
    go_ret2
    exact ⟨_, rfl, Kd.R_nil _ _ _ _ _, HB.out⟩
theorem codec_Encode.calls (a0_0 : Int) (a0_1 : Int) (a0_2 : ByteArray) (A0_3 : Option Addr) (c0_3 : Nat) (l0_3 : List (S24)) (r1 : List Int) (r2 : Int) (w : World) (hr0_3 : Kd.C k24 w A0_3 l0_3.length l0_3) (hc0_3 : l0_3.length ≤ c0_3) (h : codec_Encode.f a0_0 a0_1 a0_2 l0_3 = some (r1, r2)) :
    Calls Try.prog 8 #[.agg #[.int .i64 a0_0, .int .i64 a0_1, .string a0_2, .slice A0_3 l0_3.length c0_3]] w fun e w' => ∃ v0_ : Value, e = .returned (.tuple #[v0_, .int .i64 r2]) ∧ Kd.R (Kd.int .u8) 5 w' w.heap.size (fun _ => True) v0_ r1 ∧ Below w.heap.size w w' := encode_at a0_0 a0_1 a0_2 A0_3 c0_3 l0_3 r1 r2 w hr0_3 hc0_3 h
end Go.Proofs.Ytgnkjhppfenmaaa.Q
/- The reader of codec: value. -/
namespace Go.Proofs.Ytgnkjhppfenmaaa.Q
open Go.RowKit Go.Proofs.YtgnkjhppfenmaaaW.PrintWords Go.Proofs.YtgnkjhppfenmaaaW.PrintLast Go.Proofs.YtgnkjhppfenmaaaW.PrintMore
/-- how the reading of a value ends: what it leads to lies in new memory -/
def ValEnds (w0 w w' : World) (g : Nat) (r : Option (S24 × List Int)) (e : Ending) : Prop := match r with
  | some (x, ys) => (∃ v3 : Value, e = .returned (.agg #[.int .i64 x.f0, .int .i64 x.f1, .string x.f2, v3]) ∧ Kd.R k24 24 w' w0.heap.size (fun k_ => w.heap.size ≤ k_) v3 x.f3) ∧ RD w0 w' g ys
  | none => e = .panicked codeErr
/-- the reader, what stays, and the value under way -/
structure VS (w0 w W : World) (g gv : Nat) (cs : Array Value) (xs : List Int) : Prop where
  r : RD w0 W g xs
  k : RK w0 w W g
  b : W.heap[gv]? = some (.cells cs 24 (0, 0))
theorem RD.ne {w0 W : World} {g gv : Nat} {xs : List Int} {cs : Array Value} (h : RD w0 W g xs) (hb : W.heap[gv]? = some (.cells cs 24 (0, 0))) : g ≠ gv := by
  obtain ⟨A, c, h1, _⟩ := h
  exact blk_ne h1 hb (by decide)
theorem RD.blk {w0 W W1 : World} {g : Nat} {xs : List Int} (h : RD w0 W g xs) (hb : ∀ o, W.heap[g]? = some o → W1.heap[g]? = some o) : RD w0 W1 g xs := by
  obtain ⟨A, c, h1, h2⟩ := h
  exact ⟨A, c, hb _ h1, h2⟩
theorem keepbut_set {w W : World} {g gv : Nat} (h : KeepBut w W g none) (hv : w.heap.size ≤ gv) (j : Nat) (u : Value) : KeepBut w (W.setCell ⟨gv, j, none⟩ u) g none :=
  ⟨by simpa using h.1, fun i hi hg hr => (Below.heap_setCell W _ u i (by intro e; simp at e; omega)).trans (h.2 i hi hg hr)⟩
theorem VS.set {w0 w W : World} {g gv : Nat} {cs : Array Value} {xs : List Int} (h : VS w0 w W g gv cs xs) (hv : w.heap.size ≤ gv) (h0 : w0.heap.size ≤ gv) (j : Nat) (u : Value) : VS w0 w (W.setCell ⟨gv, j, none⟩ u) g gv (cs.setIfInBounds j u) xs :=
  ⟨h.r.blk fun o ho => (Below.heap_setCell W ⟨gv, j, none⟩ u g (h.r.ne h.b)).trans ho, ⟨h.k.b.setCell h0 u, keepbut_set h.k.k hv j u⟩, blk_set h.b j u⟩
theorem VS.call {w0 w W W1 : World} {g gv : Nat} {cs : Array Value} {xs ys : List Int} (h : VS w0 w W g gv cs xs) (hr : RD w0 W1 g ys) (hk : RK w0 W W1 g) : VS w0 w W1 g gv cs ys :=
  ⟨hr, h.k.trans hk, hk.k.blk h.b (fun e => h.r.ne h.b e.symm) (by simp)⟩
theorem VS.new {w0 w : World} {g : Nat} {xs : List Int} (hB : Below w0.heap.size w0 w) (h : RD w0 w g xs) (cs : Array Value) : VS w0 w (w.alloc (.cells cs 24)) g w.heap.size cs xs :=
  ⟨h.blk fun o ho => blk_alloc ho _, (RK.refl hB g).alloc _ hB.size, blk_new _ _⟩
theorem VS.drawn {w0 w W W1 : World} {g gv : Nat} {cs : Array Value} {xs : List Int} (h : VS w0 w W g gv cs xs) (hd : Drawn0 W W1) : VS w0 w W1 g gv cs xs := by
  obtain ⟨⟨n, rfl⟩⟩ := hd
  exact ⟨h.r.blk fun o ho => blk_drewN ho n, ⟨pw_below_drewN h.k.b n, keep_drewN h.k.k n⟩, blk_drewN h.b n⟩
theorem info24' : (Try.prog.info? 24).map (·.size) = some 4 := by kernel_rfl
set_option maxHeartbeats 8000000 in
set_option maxRecDepth 100000 in
theorem value_nil (d : Int) {w0 w : World} {g : Nat} (hB : Below w0.heap.size w0 w) (h : RD w0 w g []) :
    Calls Try.prog 28 #[.pointer (some ⟨g, 0, none⟩), .int .i64 d] w fun e w' => e = .panicked codeErr ∧ RK w0 w w' g := by
  have V := Aside0.mk (VS.new hB h #[.int .i64 0, .int .i64 0, .string ⟨#[]⟩, .slice none 0 0])
  go_enter Try.func28, Try.ntmps28
  go_wp2_with (go_at_call 40; (refine (take_none V.out.k.b V.out.r).mono ?_); rintro e w1 ⟨rfl, hk⟩)
  exact ⟨rfl, rfl, V.out.k.trans hk⟩
set_option maxHeartbeats 8000000 in
set_option maxRecDepth 100000 in
theorem value_other (d k : Int) {w0 w : World} {g : Nat} {xs : List Int} (hB : Below w0.heap.size w0 w) (hg : w0.heap.size ≤ g) (h : RD w0 w g (k :: xs)) (h1 : k ≠ 1) (h2 : k ≠ 2) (h3 : k ≠ 3) (hk0 : 0 ≤ k) (hk1 : k ≤ 255) :
    Calls Try.prog 28 #[.pointer (some ⟨g, 0, none⟩), .int .i64 d] w fun e w' => e = .panicked codeErr ∧ RK w0 w w' g := by
  have V := Aside0.mk (VS.new hB h #[.int .i64 0, .int .i64 0, .string ⟨#[]⟩, .slice none 0 0])
  have HG := Aside0.mk hg
  have GV := Aside0.mk hB.size
  have W64 : wrap64 k = k := by unfold wrap64; omega
  clear hB h hg hk0 hk1
  have e1 : (k == 1) = false := beq_eq_false_iff_ne.mpr h1
  have e2 : (k == 2) = false := beq_eq_false_iff_ne.mpr h2
  have e3 : (k == 3) = false := beq_eq_false_iff_ne.mpr h3
  clear h1 h2 h3
  go_enter Try.func28, Try.ntmps28
  go_upto_region 2 with (go_at_call 40; (refine (take_byte V.out.k.b HG.out V.out.r).mono ?_); rintro e w1 ⟨⟨ad, rfl, hz⟩, hd, hk⟩; have V1 := Aside0.mk (V.out.call hd hk); clear hd hk; have hcz := (blk_cell V1.out.b 0).trans rfl; have hcf := blk_frozen V1.out.b 0)
  have V2 := Aside0.mk (V1.out.set (Nat.le_refl _) GV.out 0 (.int .i64 k))
  clear V V1 hz hcz hcf
  generalize hgv : w.heap.size = gv at *
  have HV := Aside0.mk hgv
  clear hgv
  generalize w1.setCell ⟨gv, 0, none⟩ (.int .i64 k) = w2 at *
  have hcz := (blk_cell V2.out.b 0).trans rfl
  go_wp2_with (go_at_call 29; (refine (want_not _ _).mono ?_); rintro e w3 ⟨rfl, rfl⟩)
  exact ⟨rfl, rfl, V2.out.k⟩
set_option maxHeartbeats 8000000 in
set_option maxRecDepth 100000 in
theorem value_one (d : Int) {w0 w : World} {g : Nat} {xs : List Int} (hB : Below w0.heap.size w0 w) (hg : w0.heap.size ≤ g) (h : RD w0 w g (1 :: xs)) (hx : areBytes xs = true) :
    Calls Try.prog 28 #[.pointer (some ⟨g, 0, none⟩), .int .i64 d] w fun e w' => ValEnds w0 w w' g (match rdNum xs with | some (u, r2) => some (⟨1, sgnG u, ⟨#[]⟩, []⟩, r2) | none => none) e ∧ RK w0 w w' g := by
  have V := Aside0.mk (VS.new hB h #[.int .i64 0, .int .i64 0, .string ⟨#[]⟩, .slice none 0 0])
  have HG := Aside0.mk hg
  have GV := Aside0.mk hB.size
  have W64 : wrap64 1 = 1 := by unfold wrap64; omega
  have HX := Aside0.mk hx
  clear hB h hg hx
  have C := fun (w' : World) (hB : Below w0.heap.size w0 w') (h : RD w0 w' g xs) => number_ends hB HG.out h HX.out
  cases hn : rdNum xs with
  | none =>
    rw [hn] at C
    replace C := Aside0.mk C
    clear hn
    go_enter Try.func28, Try.ntmps28
    go_upto_region 2 with (go_at_call 40; (refine (take_byte V.out.k.b HG.out V.out.r).mono ?_); rintro e w1 ⟨⟨ad, rfl, hz⟩, hd, hk⟩; have V1 := Aside0.mk (V.out.call hd hk); clear hd hk; have hcz := (blk_cell V1.out.b 0).trans rfl; have hcf := blk_frozen V1.out.b 0)
    have V2 := Aside0.mk (V1.out.set (Nat.le_refl _) GV.out 0 (.int .i64 1))
    clear V V1 hz hcz hcf
    generalize hgv : w.heap.size = gv at *
    have HV := Aside0.mk hgv
    clear hgv
    generalize w1.setCell ⟨gv, 0, none⟩ (.int .i64 1) = w2 at *
    have hcz := (blk_cell V2.out.b 0).trans rfl
    go_wp2_with (go_at_call 42; (refine (C.out _ V2.out.k.b V2.out.r).mono ?_); rintro e w3 ⟨rfl, hk⟩)
    exact ⟨rfl, rfl, V2.out.k.trans hk⟩
  | some p =>
    obtain ⟨u, ys⟩ := p
    rw [hn] at C
    replace C := Aside0.mk C
    clear hn
    go_enter Try.func28, Try.ntmps28
    go_upto_region 2 with (go_at_call 40; (refine (take_byte V.out.k.b HG.out V.out.r).mono ?_); rintro e w1 ⟨⟨ad, rfl, hz⟩, hd, hk⟩; have V1 := Aside0.mk (V.out.call hd hk); clear hd hk; have hcz := (blk_cell V1.out.b 0).trans rfl; have hcf := blk_frozen V1.out.b 0)
    have V2 := Aside0.mk (V1.out.set (Nat.le_refl _) GV.out 0 (.int .i64 1))
    clear V V1 hz hcz hcf
    generalize hgv : w.heap.size = gv at *
    have HV := Aside0.mk hgv
    clear hgv
    generalize w1.setCell ⟨gv, 0, none⟩ (.int .i64 1) = w2 at *
    have hcz := (blk_cell V2.out.b 0).trans rfl
    go_upto_region 14 with (first | (go_at_call 42; (refine (C.out _ V2.out.k.b V2.out.r).mono ?_); rintro e w3 ⟨⟨rfl, hd⟩, hk⟩; have V3 := Aside0.mk (V2.out.call hd hk); clear hd hk hcz) | (go_at_call 41; (refine (codec_signed.calls u (sgnG u) _ rfl).mono ?_); rintro e w4 ⟨rfl, hd⟩; have V4 := Aside0.mk (V3.out.drawn hd); clear hd V3; have hcz1 := (blk_cell V4.out.b 1).trans rfl; have hcf1 := blk_frozen V4.out.b 1))
    have V5 := Aside0.mk (V4.out.set (Nat.le_of_eq HV.out) GV.out 1 (.int .i64 (sgnG u)))
    clear V4 V2
    generalize w4.setCell ⟨gv, 1, none⟩ (.int .i64 (sgnG u)) = w5 at *
    have hu24 := Try.underlying24
    have fz0 := blk_frozen V5.out.b 0
    have cz0 := (blk_cell V5.out.b 0).trans rfl
    have fz1 := blk_frozen V5.out.b 1
    have cz1 := (blk_cell V5.out.b 1).trans rfl
    have fz2 := blk_frozen V5.out.b 2
    have cz2 := (blk_cell V5.out.b 2).trans rfl
    have fz3 := blk_frozen V5.out.b 3
    have cz3 := (blk_cell V5.out.b 3).trans rfl
    go_wp2
    have E := (((V5.out.set (Nat.le_of_eq HV.out) GV.out 0 (.int .i64 1)).set (Nat.le_of_eq HV.out) GV.out 1 (.int .i64 (sgnG u))).set (Nat.le_of_eq HV.out) GV.out 2 (.string (⟨#[]⟩))).set (Nat.le_of_eq HV.out) GV.out 3 (.slice none 0 0)
    refine bodyPost_ret (results_cell_row rfl _ _ gv 24 #[.int .i64 1, .int .i64 (sgnG u), .string (⟨#[]⟩), .slice none 0 0] (0, 0) _ rfl E.b hu24 rfl info24') rfl ?_
    exact ⟨⟨⟨_, rfl, Kd.R_nil _ _ _ _ _⟩, E.r⟩, E.k⟩
set_option maxHeartbeats 8000000 in
set_option maxRecDepth 100000 in
theorem value_two (d : Int) {w0 w : World} {g : Nat} {xs : List Int} (hB : Below w0.heap.size w0 w) (hg : w0.heap.size ≤ g) (h : RD w0 w g (2 :: xs)) (hx : areBytes xs = true) :
    Calls Try.prog 28 #[.pointer (some ⟨g, 0, none⟩), .int .i64 d] w fun e w' => ValEnds w0 w w' g (match rdLen xs with | some (m, r2) => some (⟨2, 0, strOfNums (r2.take m), []⟩, r2.drop m) | none => none) e ∧ RK w0 w w' g := by
  have V := Aside0.mk (VS.new hB h #[.int .i64 0, .int .i64 0, .string ⟨#[]⟩, .slice none 0 0])
  have HG := Aside0.mk hg
  have GV := Aside0.mk hB.size
  have W64 : wrap64 2 = 2 := by unfold wrap64; omega
  have HX := Aside0.mk hx
  clear hB h hg hx
  have C := fun (w' : World) (hB : Below w0.heap.size w0 w') (h : RD w0 w' g xs) => length_ends hB HG.out h HX.out
  cases hn : rdLen xs with
  | none =>
    rw [hn] at C
    replace C := Aside0.mk C
    clear hn
    go_enter Try.func28, Try.ntmps28
    go_upto_region 2 with (go_at_call 40; (refine (take_byte V.out.k.b HG.out V.out.r).mono ?_); rintro e w1 ⟨⟨ad, rfl, hz⟩, hd, hk⟩; have V1 := Aside0.mk (V.out.call hd hk); clear hd hk; have hcz := (blk_cell V1.out.b 0).trans rfl; have hcf := blk_frozen V1.out.b 0)
    have V2 := Aside0.mk (V1.out.set (Nat.le_refl _) GV.out 0 (.int .i64 2))
    clear V V1 hz hcz hcf
    generalize hgv : w.heap.size = gv at *
    have HV := Aside0.mk hgv
    clear hgv
    generalize w1.setCell ⟨gv, 0, none⟩ (.int .i64 2) = w2 at *
    have hcz := (blk_cell V2.out.b 0).trans rfl
    go_wp2_with (go_at_call 43; (refine (C.out _ V2.out.k.b V2.out.r).mono ?_); rintro e w3 ⟨rfl, hk⟩)
    exact ⟨rfl, rfl, V2.out.k.trans hk⟩
  | some p =>
    obtain ⟨m, ys⟩ := p
    rw [hn] at C
    replace C := Aside0.mk C
    clear hn
    go_enter Try.func28, Try.ntmps28
    go_upto_region 2 with (go_at_call 40; (refine (take_byte V.out.k.b HG.out V.out.r).mono ?_); rintro e w1 ⟨⟨ad, rfl, hz⟩, hd, hk⟩; have V1 := Aside0.mk (V.out.call hd hk); clear hd hk; have hcz := (blk_cell V1.out.b 0).trans rfl; have hcf := blk_frozen V1.out.b 0)
    have V2 := Aside0.mk (V1.out.set (Nat.le_refl _) GV.out 0 (.int .i64 2))
    clear V V1 hz hcz hcf
    generalize hgv : w.heap.size = gv at *
    have HV := Aside0.mk hgv
    clear hgv
    generalize w1.setCell ⟨gv, 0, none⟩ (.int .i64 2) = w2 at *
    have hcz := (blk_cell V2.out.b 0).trans rfl
    go_upto_region 14 with (first | (go_at_call 43; (refine (C.out _ V2.out.k.b V2.out.r).mono ?_); rintro e w3 ⟨⟨rfl, hd, hm⟩, hk⟩; have V3 := Aside0.mk (V2.out.call hd hk); have HM := Aside0.mk hm; clear hd hk hcz hm) | (go_at_call 40; (refine (take_some m V3.out.k.b HG.out V3.out.r HM.out).mono ?_); rintro e w4 ⟨⟨A4, rfl, hC4⟩, hd, hk⟩; have V4 := Aside0.mk (V3.out.call hd hk); have hcv := Kd.C_string (P := Try.prog) (c := m) Try.underlying27 Try.underlying5 Try.underlying9 hC4; clear hd hk hC4 V3; have hcz2 := (blk_cell V4.out.b 2).trans rfl; have hcf2 := blk_frozen V4.out.b 2))
    have V5 := Aside0.mk (V4.out.set (Nat.le_of_eq HV.out) GV.out 2 (.string (strOfNums (ys.take m))))
    clear V4 V2 hcz2 hcf2 hcv
    generalize w4.setCell ⟨gv, 2, none⟩ (.string (strOfNums (ys.take m))) = w5 at *
    have hu24 := Try.underlying24
    have fz0 := blk_frozen V5.out.b 0
    have cz0 := (blk_cell V5.out.b 0).trans rfl
    have fz1 := blk_frozen V5.out.b 1
    have cz1 := (blk_cell V5.out.b 1).trans rfl
    have fz2 := blk_frozen V5.out.b 2
    have cz2 := (blk_cell V5.out.b 2).trans rfl
    have fz3 := blk_frozen V5.out.b 3
    have cz3 := (blk_cell V5.out.b 3).trans rfl
    go_wp2
    have E := (((V5.out.set (Nat.le_of_eq HV.out) GV.out 0 (.int .i64 2)).set (Nat.le_of_eq HV.out) GV.out 1 (.int .i64 (0))).set (Nat.le_of_eq HV.out) GV.out 2 (.string (strOfNums (ys.take m)))).set (Nat.le_of_eq HV.out) GV.out 3 (.slice none 0 0)
    refine bodyPost_ret (results_cell_row rfl _ _ gv 24 #[.int .i64 2, .int .i64 (0), .string (strOfNums (ys.take m)), .slice none 0 0] (0, 0) _ rfl E.b hu24 rfl info24') rfl ?_
    exact ⟨⟨⟨_, rfl, Kd.R_nil _ _ _ _ _⟩, E.r⟩, E.k⟩
end Go.Proofs.Ytgnkjhppfenmaaa.Q
/- The reader of codec: lists, and every value. -/
namespace Go.Proofs.Ytgnkjhppfenmaaa.Q
open Go.RowKit Go.Proofs.YtgnkjhppfenmaaaW.PrintWords Go.Proofs.YtgnkjhppfenmaaaW.PrintLast Go.Proofs.YtgnkjhppfenmaaaW.PrintMore
section
variable {P : Program} {ops : Array Oper} {a : Act} {Kc : Act → World → Prop} {Q : Exit → Act → World → Prop}
/-- A call that may end in a panic. -/
theorem goesP_ {oi : Oper} {N : Option Tmp} {w : World} {f : FuncId} {fn : Func} {ao : Array Operand} {ts : Array TypeId} (hf : P.funcs[f]? = some fn) (hname : (fn.name == "runtime.NumGoroutine") = false) (hb : fn.body.isSome = true) (args : Array Value)
    (hw : Region.wanted oi (yielded ops a.tmps) = true) (hN : oi.dst = N) (hop : oi.op = .call { callee := .value (.func f), args := ao, argTypes := ts }) (hargs : ao.map a.eval = args)
    (h : Calls P f args w fun e w' => (∃ v, e = .returned v ∧ Kc (a.put N v) w') ∨ (∃ ch, e = .panicked ch ∧ Q (.panic ch) a w')) : if Region.wanted oi (yielded ops a.tmps) = true then Oper.wp P oi a w Kc Q else Kc (a.put N undef) w := by
  rw [if_pos hw]
  subst hN
  have he := enters_ hf hname hb args w
  have hrun : (execOp a.eval oi).run P w = .ok (.enter f args) w := by
    unfold execOp
    simp [hop, resolve, Deferred.ofValue, invoke, Act.eval, hargs, he]
  unfold Oper.wp
  rw [hrun, Oper.upon_enter]
  refine h.mono fun e w'' hh => ?_
  rcases hh with ⟨v, rfl, hk⟩ | ⟨ch, rfl, hq⟩
  · exact hk
  · exact hq
end
theorem RD.lt {w0 W : World} {g : Nat} {xs : List Int} (h : RD w0 W g xs) : g < W.heap.size := by
  obtain ⟨A, c, h1, _⟩ := h
  exact blk_lt h1
theorem VS.grown {w0 w W W1 : World} {g gv : Nat} {cs : Array Value} {xs : List Int} {row : Option Nat} (h : VS w0 w W g gv cs xs) (hg : W.grownBy W1 row) (h0 : w0.heap.size ≤ W.heap.size) (hlt : g < w.heap.size) (hrow : ∀ k, row = some k → w.heap.size ≤ k) (h0w : w0.heap.size ≤ w.heap.size) (hgv : some gv ≠ row) : VS w0 w W1 g gv cs xs :=
  ⟨h.r.blk fun o ho => (hg.block g (blk_lt ho) (fun e => by have := hrow g e.symm; omega)).trans ho,
   ⟨h.k.b.grown hg h0 (fun k hk => Nat.le_trans h0w (hrow k hk)), ⟨Nat.le_trans h.k.k.1 hg.size, fun i hi hne hr => (hg.block i (Nat.lt_of_lt_of_le hi h.k.k.1) (fun e => by have := hrow i e.symm; omega)).trans (h.k.k.2 i hi hne hr)⟩⟩,
   blk_grown h.b hg hgv⟩
theorem VS.alloc {w0 w W : World} {g gv : Nat} {cs : Array Value} {xs : List Int} (h : VS w0 w W g gv cs xs) (h0 : w0.heap.size ≤ W.heap.size) (o : Obj) : VS w0 w (W.alloc o) g gv cs xs :=
  ⟨h.r.blk fun o' ho => blk_alloc ho _, h.k.alloc o h0, blk_alloc h.b _⟩
theorem VS.drew {w0 w W : World} {g gv : Nat} {cs : Array Value} {xs : List Int} (h : VS w0 w W g gv cs xs) : VS w0 w W.drew g gv cs xs :=
  ⟨h.r.blk fun o' ho => blk_drew ho, ⟨below_drew1 h.k.b, ⟨h.k.k.1, h.k.k.2⟩⟩, blk_drew h.b⟩
theorem rdNumA_suf : ∀ (xs : List Int) (i : Nat) (u : Int) (v : Int) (ys : List Int), rdNumA i u xs = some (v, ys) → ys <:+ xs
  | [], _, _, _, _, h => by cases h
  | c :: xs, i, u, v, ys, h => by
    rw [rdNumA] at h
    split at h
    · split at h
      · cases h
        exact List.suffix_cons _ _
      · exact (rdNumA_suf xs _ _ _ _ h).trans (List.suffix_cons _ _)
    · cases h
theorem rdLen_suf {xs : List Int} {m : Nat} {ys : List Int} (h : rdLen xs = some (m, ys)) : ys <:+ xs := by
  unfold rdLen at h
  split at h
  · next u r hr =>
    split at h
    · cases h
      exact rdNumA_suf _ _ _ _ _ hr
    · cases h
  · cases h
theorem rdMany_suf {f : List Int → Option (S24 × List Int)} (hf : ∀ xs v r, f xs = some (v, r) → r <:+ xs) : ∀ (m : Nat) (xs : List Int) (l : List S24) (r : List Int), rdMany f m xs = some (l, r) → r <:+ xs
  | 0, xs, l, r, h => by cases h; exact List.suffix_refl _
  | m + 1, xs, l, r, h => by
    rw [rdMany] at h
    split at h
    · next v r1 h1 =>
      split at h
      · next l2 r2 h2 =>
        cases h
        exact (rdMany_suf hf m _ _ _ h2).trans (hf _ _ _ h1)
      · cases h
    · cases h
theorem rdVal_suf : ∀ (n : Nat) (xs : List Int) (v : S24) (r : List Int), rdVal n xs = some (v, r) → r <:+ xs := by
  intro n
  induction n with
  | zero =>
    intro xs v r h
    cases xs with
    | nil => cases h
    | cons k xs =>
      rw [rdVal] at h
      split at h
      · split at h
        · next u r2 h2 => cases h; exact (rdNumA_suf _ _ _ _ _ h2).trans (List.suffix_cons _ _)
        · cases h
      · split at h
        · split at h
          · next m r2 h2 => cases h; exact ((List.drop_suffix _ _).trans (rdLen_suf h2)).trans (List.suffix_cons _ _)
          · cases h
        · split at h <;> cases h
  | succ n ih =>
    intro xs v r h
    cases xs with
    | nil => cases h
    | cons k xs =>
      rw [rdVal] at h
      split at h
      · split at h
        · next u r2 h2 => cases h; exact (rdNumA_suf _ _ _ _ _ h2).trans (List.suffix_cons _ _)
        · cases h
      · split at h
        · split at h
          · next m r2 h2 => cases h; exact ((List.drop_suffix _ _).trans (rdLen_suf h2)).trans (List.suffix_cons _ _)
          · cases h
        · split at h
          · split at h
            · next m r2 h2 =>
              split at h
              · next l r3 h3 =>
                cases h
                exact ((rdMany_suf ih _ _ _ _ h3).trans (rdLen_suf h2)).trans (List.suffix_cons _ _)
              · cases h
            · cases h
          · cases h
theorem bytes_suf {xs ys : List Int} (h : areBytes xs = true) (hs : ys <:+ xs) : areBytes ys = true := List.all_eq_true.2 fun x hx => List.all_eq_true.1 h x (hs.subset hx)
/-- what is said of the values within n lists more -/
def ValSays (n : Nat) : Prop := ∀ (d : Int) (w0 w : World) (g : Nat) (xs : List Int), 0 ≤ d → d + n = 16 → Below w0.heap.size w0 w → w0.heap.size ≤ g → RD w0 w g xs → areBytes xs = true → xs.length ≤ 1000000 →
    Calls Try.prog 28 #[.pointer (some ⟨g, 0, none⟩), .int .i64 d] w fun e w' => ValEnds w0 w w' g (rdVal n xs) e ∧ RK w0 w w' g
set_option maxHeartbeats 8000000 in
set_option maxRecDepth 100000 in
theorem value_deep {w0 w : World} {g : Nat} {xs : List Int} (hB : Below w0.heap.size w0 w) (hg : w0.heap.size ≤ g) (h : RD w0 w g (3 :: xs)) :
    Calls Try.prog 28 #[.pointer (some ⟨g, 0, none⟩), .int .i64 16] w fun e w' => e = .panicked codeErr ∧ RK w0 w w' g := by
  have V := Aside0.mk (VS.new hB h #[.int .i64 0, .int .i64 0, .string ⟨#[]⟩, .slice none 0 0])
  have HG := Aside0.mk hg
  have GV := Aside0.mk hB.size
  have W64 : wrap64 3 = 3 := by unfold wrap64; omega
  clear hB h hg
  go_enter Try.func28, Try.ntmps28
  go_upto_region 2 with (go_at_call 40; (refine (take_byte V.out.k.b HG.out V.out.r).mono ?_); rintro e w1 ⟨⟨ad, rfl, hz⟩, hd, hk⟩; have V1 := Aside0.mk (V.out.call hd hk); clear hd hk; have hcz := (blk_cell V1.out.b 0).trans rfl; have hcf := blk_frozen V1.out.b 0)
  have V2 := Aside0.mk (V1.out.set (Nat.le_refl _) GV.out 0 (.int .i64 3))
  clear V V1 hz hcz hcf
  generalize hgv : w.heap.size = gv at *
  have HV := Aside0.mk hgv
  clear hgv
  generalize w1.setCell ⟨gv, 0, none⟩ (.int .i64 3) = w2 at *
  have hcz := (blk_cell V2.out.b 0).trans rfl
  go_wp2_with (go_at_call 29; (refine (want_not _ _).mono ?_); rintro e w3 ⟨rfl, rfl⟩)
  exact ⟨rfl, rfl, V2.out.k⟩
set_option maxHeartbeats 8000000 in
set_option maxRecDepth 100000 in
theorem value_three {n : Nat} (IH : ValSays n) (d : Int) (hd0 : 0 ≤ d) (hd : d + (n + 1 : Nat) = 16) {w0 w : World} {g : Nat} {xs : List Int} (hB : Below w0.heap.size w0 w) (hg : w0.heap.size ≤ g) (h : RD w0 w g (3 :: xs)) (hx : areBytes xs = true) (hlx : xs.length ≤ 1000000) (r0 : Option (S24 × List Int)) (hr0 : (match rdLen xs with | some (m, r2) => (match rdMany (rdVal n) m r2 with | some (l, r3) => some (⟨3, 0, ⟨#[]⟩, l⟩, r3) | none => none) | none => none) = r0) :
    Calls Try.prog 28 #[.pointer (some ⟨g, 0, none⟩), .int .i64 d] w fun e w' => ValEnds w0 w w' g r0 e ∧ RK w0 w w' g := by
  have V := Aside0.mk (VS.new hB h #[.int .i64 0, .int .i64 0, .string ⟨#[]⟩, .slice none 0 0])
  have HG := Aside0.mk hg
  have GV := Aside0.mk hB.size
  have W64 : wrap64 3 = 3 := by unfold wrap64; omega
  have HX := Aside0.mk hx
  have GL0 := h.lt
  have IH := Aside0.mk IH
  have D0 : decide (d < 16) = true := decide_eq_true (by omega)
  have D1 := Aside0.mk (show d + 1 + (n : Int) = 16 by omega)
  have D2 := Aside0.mk (show 0 ≤ d + 1 by omega)
  have W1 := Aside0.mk (show wrap64 (d + 1) = d + 1 by unfold wrap64; omega)
  clear hB h hg hx hd hd0
  have C := fun (w' : World) (hB : Below w0.heap.size w0 w') (h : RD w0 w' g xs) => length_ends hB HG.out h HX.out
  cases hn : rdLen xs with
  | none =>
    rw [hn] at C hr0
    replace C := Aside0.mk C
    obtain rfl : none = r0 := hr0
    clear hn hlx
    go_enter Try.func28, Try.ntmps28
    go_upto_region 2 with (go_at_call 40; (refine (take_byte V.out.k.b HG.out V.out.r).mono ?_); rintro e w1 ⟨⟨ad, rfl, hz⟩, hd, hk⟩; have V1 := Aside0.mk (V.out.call hd hk); clear hd hk; have hcz := (blk_cell V1.out.b 0).trans rfl; have hcf := blk_frozen V1.out.b 0)
    have V2 := Aside0.mk (V1.out.set (Nat.le_refl _) GV.out 0 (.int .i64 3))
    clear V V1 hz hcz hcf
    generalize hgv : w.heap.size = gv at *
    have HV := Aside0.mk hgv
    clear hgv
    generalize w1.setCell ⟨gv, 0, none⟩ (.int .i64 3) = w2 at *
    have hcz := (blk_cell V2.out.b 0).trans rfl
    go_wp2_with (first | (go_at_call 29; (refine (want_ok _ _).mono ?_); rintro e w3 ⟨rfl, rfl⟩) | (go_at_call 43; (refine (C.out _ V2.out.k.b V2.out.r).mono ?_); rintro e w3 ⟨rfl, hk⟩))
    exact ⟨rfl, rfl, V2.out.k.trans hk⟩
  | some p =>
    obtain ⟨m, ys0⟩ := p
    have hm := (rdLen_len hn).2
    have HM := Aside0.mk (show m ≤ 1000000 by have := (rdLen_len hn).1; omega)
    have HY0 := Aside0.mk (show areBytes ys0 = true ∧ ys0.length ≤ 1000000 from ⟨bytes_suf HX.out (rdLen_suf hn), by have := (rdLen_len hn).1; omega⟩)
    rw [hn] at C hr0
    replace C := Aside0.mk C
    have HRES := Aside0.mk hr0
    clear hn hm hlx hr0
    go_enter Try.func28, Try.ntmps28
    go_upto_region 2 with (go_at_call 40; (refine (take_byte V.out.k.b HG.out V.out.r).mono ?_); rintro e w1 ⟨⟨ad, rfl, hz⟩, hd, hk⟩; have V1 := Aside0.mk (V.out.call hd hk); clear hd hk; have hcz := (blk_cell V1.out.b 0).trans rfl; have hcf := blk_frozen V1.out.b 0)
    have V2 := Aside0.mk (V1.out.set (Nat.le_refl _) GV.out 0 (.int .i64 3))
    clear V V1 hz hcz hcf
    generalize hgv : w.heap.size = gv at *
    have HV := Aside0.mk hgv
    clear hgv
    generalize w1.setCell ⟨gv, 0, none⟩ (.int .i64 3) = w2 at *
    have hcz := (blk_cell V2.out.b 0).trans rfl
    have GL := Aside0.mk GL0
    clear GL0
    go_upto_region 11 with (first | (go_at_call 29; (refine (want_ok _ _).mono ?_); rintro e w3 ⟨rfl, rfl⟩) | (go_at_call 43; (refine (C.out _ V2.out.k.b V2.out.r).mono ?_); rintro e w3 ⟨⟨rfl, hd, hm⟩, hk⟩; have V3 := Aside0.mk (V2.out.call hd hk); clear hd hk hcz hm))
    clear V2
    go_loopg [37] m (fun kq v37 w' => ∃ (i : Nat) (l : List S24) (ys : List Int) (vL : Value), v37 = .int .i64 i ∧ Aside0 (kq + i = m ∧ l.length = i) ∧ Aside0 (VS w0 w w' g gv #[.int .i64 3, .int .i64 0, .string ⟨#[]⟩, vL] ys) ∧ Aside0 (Kd.R k24 24 w' w0.heap.size (fun k_ => gv < k_) vL l) ∧ Aside0 (rdMany (rdVal n) m ys0 = match rdMany (rdVal n) (m - i) ys with | some (l2, r3) => some (l ++ l2, r3) | none => none) ∧ Aside0 (areBytes ys = true ∧ ys.length ≤ 1000000 ∧ True))
    case atStart => exact ⟨0, [], ys0, _, rfl, ⟨by simp⟩, V3, ⟨Kd.R_nil _ _ _ _ _⟩, ⟨by simp only [Nat.sub_zero, List.nil_append]; cases rdMany (rdVal n) m ys0 <;> rfl⟩, ⟨HY0.out.1, HY0.out.2, trivial⟩⟩
    case round =>
      clear V3
      obtain ⟨i, l, ys, vL, rfl, HI, VR, RL, HE, HY⟩ := hrel
      by_cases hi : i < m
      · have hi0 : decide ((i : Int) < (m : Int)) = true := decide_eq_true (by omega)
        have MK := Aside0.mk (show m - i = (m - (i + 1)) + 1 by omega)
        have WI := Aside0.mk (show wrap64 ((i : Int) + 1) = ((i + 1 : Nat) : Int) by have := HM.out; unfold wrap64; omega)
        have NE := Aside0.mk (show some gv ≠ vL.ownBlock from fun e_ => Nat.lt_irrefl gv (RL.out.1 gv e_.symm))
        go_wp2
        replace VR := Aside0.mk VR.out.drew
        replace RL := Aside0.mk (Kd.R_drew RL.out)
        have Z6 := Aside0.mk (blk_lt VR.out.b)
        refine start_ (n := 10) (S := fun w' => w'.cell? ⟨gv, 3, none⟩ = some vL) (ds := [9]) #[false, false, false, false, false, false, false, false, false, false] (by kernel_rfl) rfl rfl ((blk_cell VR.out.b 3).trans rfl) (fun hHeld => ?_)
        generalize wr.drew = w6 at *
        refine pure_ (i := 0) (N := some 39) (v := ?_) (a' := ?_) #[true, false, false, false, false, false, false, false, false, false] rfl rfl (by kernel_rfl) (fun _ _ _ h => h) (Or.inl ⟨by rfl, ?_⟩) ?_ ?_
        rotate_left
        · intro w'
          go_simp
          with_reducible rfl
        rotate_left
        · simp only [Act.put, List.setIfInBounds_toArray, List.set_cons_zero, List.set_cons_succ, i64_w, i32_w]
          rfl
        refine pure_ (i := 2) (N := some 41) (v := ?_) (a' := ?_) #[true, false, true, false, false, false, false, false, false, false] rfl rfl (by kernel_rfl) (fun _ _ _ h => h) (Or.inl ⟨by rfl, ?_⟩) ?_ ?_
        rotate_left
        · intro w'
          go_simp
          with_reducible rfl
        rotate_left
        · simp only [Act.put, List.setIfInBounds_toArray, List.set_cons_zero, List.set_cons_succ, i64_w, i32_w]
          rfl
        refine pure_ (i := 3) (N := some 42) (v := ?_) (a' := ?_) #[true, false, true, true, false, false, false, false, false, false] rfl rfl (by kernel_rfl) (fun _ _ _ h => h) (Or.inl ⟨by rfl, ?_⟩) ?_ ?_
        rotate_left
        · intro w'
          go_simp
          with_reducible rfl
        rotate_left
        · simp only [Act.put, List.setIfInBounds_toArray, List.set_cons_zero, List.set_cons_succ, i64_w, i32_w]
          rfl
        refine pure_ (i := 4) (N := some 43) (v := ?_) (a' := ?_) #[true, false, true, true, true, false, false, false, false, false] rfl rfl (by kernel_rfl) (fun _ _ _ h => h) (Or.inl ⟨by rfl, ?_⟩) ?_ ?_
        rotate_left
        · intro w'
          go_simp
          with_reducible rfl
        rotate_left
        · simp only [Act.put, List.setIfInBounds_toArray, List.set_cons_zero, List.set_cons_succ, i64_w, i32_w]
          rfl
        refine take_ (i := 1) (N := some 40) (v := ?_) (a' := ?_) #[true, true, true, true, true, false, false, false, false, false] rfl rfl (by kernel_rfl) (fun _ _ _ h => h) (Or.inl ⟨by rfl, ?_⟩) hHeld ?_ ?_
        rotate_left
        · rintro w' s0
          go_simp
          with_reducible rfl
        rotate_left
        · simp only [Act.put, List.setIfInBounds_toArray, List.set_cons_zero, List.set_cons_succ, i64_w, i32_w]
          rfl
        refine one_ (i := 5) (N := some 44) #[true, true, true, true, true, true, false, false, false, false] rfl rfl (by kernel_rfl) (by decide) (fun K hK => ?_)
        refine goesP_ Try.func28 (by kernel_rfl) rfl #[.pointer (some ⟨g, 0, none⟩), .int .i64 (wrap64 (d + 1))] (by rfl) rfl rfl (by (try simp only [List.map_toArray, List.map_cons, List.map_nil]); first | done | rfl) ?_
        rw [W1.out]
        refine (IH.out (d + 1) w0 _ g ys D2.out D1.out VR.out.k.b HG.out VR.out.r HY.out.1 HY.out.2.1).mono ?_
        rintro e w7 ⟨he, hk⟩
        cases hv : rdVal n ys with
        | none =>
          rw [hv] at he
          obtain rfl : e = .panicked codeErr := he
          exact .inr ⟨_, rfl, rfl, by rw [← HRES.out]; simp only [HE.out, MK.out, rdMany, hv]; exact rfl, VR.out.k.trans hk⟩
        | some p =>
        obtain ⟨x, zs⟩ := p
        rw [hv] at he
        obtain ⟨⟨v3, rfl, R3⟩, hr⟩ := he
        refine .inl ⟨_, rfl, ?_⟩
        have V7 := Aside0.mk (VR.out.call hr hk)
        have L7 := Aside0.mk (Kd.R_keep RL.out hk.k (fun k hk_ => by have h1 := GL.out; have h2 := HV.out; omega))
        have OWN := Aside0.mk (Kd.R_lt RL.out)
        have HV7 := Aside0.mk hv
        have R7 := Aside0.mk R3
        have S7 := Aside0.mk hk.k.1
        clear hv hr hk R3 RL VR
        refine hK.out _ _ ((blk_cell V7.out.b 3).trans rfl) (fun hHeld => ?_)
        clear hK K
        refine norm_ (a' := ?_) ?_ ?_
        rotate_left
        · show Act.put _ (some 44) _ = _
          simp only [Act.put, List.setIfInBounds_toArray, List.set_cons_zero, List.set_cons_succ, i64_w, i32_w]
          rfl
        refine one_ (i := 6) (N := some 45) #[true, true, true, true, true, true, true, false, false, false] rfl rfl (by kernel_rfl) (by decide) (fun K hK => ?_)
        refine value_ (w1 := ?_) (v := ?_) (by rfl) rfl ?_ ?_
        rotate_left 2
        · go_simp
          constructor
          · rfl
          · rfl
        refine hK.out _ _ ((blk_cell (V7.out.alloc (V7.out.k.b.size) (.cells #[.int .i64 x.f0, .int .i64 x.f1, .string x.f2, v3] 24)).b 3).trans rfl) (fun hHeld => ?_)
        clear hK K
        refine norm_ (a' := ?_) ?_ ?_
        rotate_left
        · show Act.put _ (some 45) _ = _
          simp only [Act.put, List.setIfInBounds_toArray, List.set_cons_zero, List.set_cons_succ, i64_w, i32_w]
          rfl
        refine one_ (i := 7) (N := some 46) #[true, true, true, true, true, true, true, true, false, false] rfl rfl (by kernel_rfl) (by decide) (fun K hK => ?_)
        refine Kd.R_append_step k24 (w0 := w0) w0.heap.size (by rfl) (.tmp 40) (.tmp 45) 22 24 (.agg #[.int .i64 0, .int .i64 0, .string ⟨#[]⟩, .slice none 0 0]) 56 rfl Try.underlying22 info24 rfl (by decide) (by omega) vL l x [.int .i64 x.f0, .int .i64 x.f1, .string x.f2, v3] (fun k_ => gv < k_) (fun k_ => w6.heap.size ≤ k_) rfl rfl (k24_mkM _ _ _ x R7.out) (fun k_ hk_ => ⟨Nat.lt_of_lt_of_le Z6.out hk_, fun e_ => by have := OWN.out k_ e_.symm; omega⟩) (fun k_ hk_ => Nat.lt_of_lt_of_le (blk_lt V7.out.b) hk_) L7.out V7.out.k.b V7.out.k.b.size (by have := HY.out; have := HI.out; have := HM.out; omega) ?_
        intro v8 w8 ho hb hgr hat
        have V8 := Aside0.mk (V7.out.grown hgr V7.out.k.b.size (by rw [HV.out]; exact GL.out) (fun k hk_ => by rw [HV.out]; exact Nat.le_of_lt (L7.out.1 k hk_)) (by rw [HV.out]; exact GV.out) NE.out)
        have L8 := Aside0.mk ho
        clear ho hb hgr hat V7 L7
        refine hK.out _ _ ((blk_cell V8.out.b 3).trans rfl) (fun hHeld => ?_)
        clear hK K
        refine norm_ (a' := ?_) ?_ ?_
        rotate_left
        · show Act.put _ (some 46) _ = _
          simp only [Act.put, List.setIfInBounds_toArray, List.set_cons_zero, List.set_cons_succ, i64_w, i32_w]
          rfl
        refine pure_ (i := 8) (N := some 47) (v := ?_) (a' := ?_) #[true, true, true, true, true, true, true, true, true, false] rfl rfl (by kernel_rfl) (fun _ _ _ h => h) (Or.inl ⟨by rfl, ?_⟩) ?_ ?_
        rotate_left
        · intro w'
          go_simp
          with_reducible rfl
        rotate_left
        · simp only [Act.put, List.setIfInBounds_toArray, List.set_cons_zero, List.set_cons_succ, i64_w, i32_w]
          rfl
        refine last_ (i := 9) (N := none) #[true, true, true, true, true, true, true, true, true, true] rfl rfl (by kernel_rfl) (by decide) (fun K hK => ?_)
        obtain ⟨A8, c8, rfl⟩ := Kd.R_slice L8.out
        have hcz8 := (blk_cell V8.out.b 3).trans rfl
        have hcf8 := blk_frozen V8.out.b 3
        refine skip_ (w1 := ?_) (by rfl) rfl ?_ ?_
        rotate_left
        · go_simp
          rfl
        refine hK.out _ _ ?_
        clear hK K
        refine done_ (by kernel_rfl) ?_
        have hlen : (l ++ [x]).length = l.length + 1 := by simp
        have V9 := Aside0.mk (V8.out.set (Nat.le_of_eq HV.out) GV.out 3 (.slice A8 (l.length + 1) c8))
        have L9 := Aside0.mk (show Kd.R k24 24 (w8.setCell ⟨gv, 3, none⟩ (.slice A8 (l.length + 1) c8)) w0.heap.size (fun k_ => gv < k_) (.slice A8 (l.length + 1) c8) (l ++ [x]) from by have h_ := Kd.R_far (p := ⟨gv, 3, none⟩) L8.out (fun k_ hk_ => Nat.ne_of_gt hk_) (.slice A8 (l.length + 1) c8); rwa [hlen] at h_)
        clear V8 L8
        simp only [hlen]
        generalize w8.setCell ⟨gv, 3, none⟩ (.slice A8 (l.length + 1) c8) = w9 at *
        go_wp2
        go_roundg (m - (i + 1))
        case measure => have := HI.out; omega
        case rel =>
          refine ⟨i + 1, l ++ [x], zs, _, by rw [WI.out], ⟨by omega, by have := HI.out.2; simp; omega⟩, V9, L9, ⟨?_⟩, ⟨bytes_suf HY.out.1 (rdVal_suf _ _ _ _ HV7.out), Nat.le_trans (rdVal_len _ _ _ _ HV7.out) HY.out.2.1, trivial⟩⟩
          rw [HE.out, MK.out, rdMany, HV7.out]
          simp only
          cases rdMany (rdVal n) (m - (i + 1)) zs with
          | none => rfl
          | some q => simp
      · have hi0 : decide ((i : Int) < (m : Int)) = false := decide_eq_false (by omega)
        have HE2 := Aside0.mk (show rdMany (rdVal n) m ys0 = some (l, ys) by
          have := HE.out
          rw [show m - i = 0 by omega, rdMany] at this
          simpa using this)
        clear HE HI HY
        obtain ⟨AL, cL, rfl⟩ := Kd.R_slice RL.out
        have hu24 := Try.underlying24
        have fz0 := blk_frozen VR.out.b 0
        have cz0 := (blk_cell VR.out.b 0).trans rfl
        have fz1 := blk_frozen VR.out.b 1
        have cz1 := (blk_cell VR.out.b 1).trans rfl
        have fz2 := blk_frozen VR.out.b 2
        have cz2 := (blk_cell VR.out.b 2).trans rfl
        have fz3 := blk_frozen VR.out.b 3
        have cz3 := (blk_cell VR.out.b 3).trans rfl
        go_wp2
        have E := (((VR.out.set (Nat.le_of_eq HV.out) GV.out 0 (.int .i64 3)).set (Nat.le_of_eq HV.out) GV.out 1 (.int .i64 (0))).set (Nat.le_of_eq HV.out) GV.out 2 (.string (⟨#[]⟩))).set (Nat.le_of_eq HV.out) GV.out 3 (.slice AL l.length cL)
        refine bodyPost_ret (results_cell_row rfl _ _ gv 24 #[.int .i64 3, .int .i64 (0), .string (⟨#[]⟩), .slice AL l.length cL] (0, 0) _ rfl E.b hu24 rfl info24') rfl ?_
        rw [← HRES.out]; simp only [HE2.out]
        exact ⟨⟨⟨_, rfl, Kd.R_mono (Kd.R_far (p := ⟨gv, 3, none⟩) (Kd.R_far (p := ⟨gv, 2, none⟩) (Kd.R_far (p := ⟨gv, 1, none⟩) (Kd.R_far (p := ⟨gv, 0, none⟩) RL.out (fun k_ hk_ => Nat.ne_of_gt hk_) _) (fun k_ hk_ => Nat.ne_of_gt hk_) _) (fun k_ hk_ => Nat.ne_of_gt hk_) _) (fun k_ hk_ => Nat.ne_of_gt hk_) _) (fun k hk_ => by rw [HV.out]; exact Nat.le_of_lt hk_)⟩, E.r⟩, E.k⟩
theorem value_says (n : Nat) : ValSays n := by
  induction n with
  | zero =>
    intro d w0 w g xs hd0 hd hB hg hR hx hl
    cases xs with
    | nil => exact value_nil d hB hR
    | cons k r =>
      have hk := bytes_head hx
      have hr := bytes_tail hx
      by_cases h1 : k = 1
      · subst h1
        rw [show rdVal 0 (1 :: r) = _ from by rw [rdVal, if_pos rfl]]
        exact value_one d hB hg hR hr
      by_cases h2 : k = 2
      · subst h2
        rw [show rdVal 0 (2 :: r) = _ from by rw [rdVal, if_neg (by decide), if_pos rfl]]
        exact value_two d hB hg hR hr
      by_cases h3 : k = 3
      · subst h3
        obtain rfl : d = 16 := by omega
        rw [show rdVal 0 (3 :: r) = none from by rw [rdVal, if_neg (by decide), if_neg (by decide), if_pos rfl]]
        exact value_deep hB hg hR
      · rw [show rdVal 0 (k :: r) = none from by rw [rdVal, if_neg h1, if_neg h2, if_neg h3]]
        exact value_other d k hB hg hR h1 h2 h3 hk.1 hk.2
  | succ n ih =>
    intro d w0 w g xs hd0 hd hB hg hR hx hl
    cases xs with
    | nil => exact value_nil d hB hR
    | cons k r =>
      have hk := bytes_head hx
      have hr := bytes_tail hx
      by_cases h1 : k = 1
      · subst h1
        rw [show rdVal (n + 1) (1 :: r) = _ from by rw [rdVal, if_pos rfl]]
        exact value_one d hB hg hR hr
      by_cases h2 : k = 2
      · subst h2
        rw [show rdVal (n + 1) (2 :: r) = _ from by rw [rdVal, if_neg (by decide), if_pos rfl]]
        exact value_two d hB hg hR hr
      by_cases h3 : k = 3
      · subst h3
        rw [show rdVal (n + 1) (3 :: r) = _ from by rw [rdVal, if_neg (by decide), if_neg (by decide), if_pos rfl]]
        exact value_three ih d hd0 hd hB hg hR hr (by simp at hl; omega) _ rfl
      · rw [show rdVal (n + 1) (k :: r) = none from by rw [rdVal, if_neg h1, if_neg h2, if_neg h3]]
        exact value_other d k hB hg hR h1 h2 h3 hk.1 hk.2
end Go.Proofs.Ytgnkjhppfenmaaa.Q
