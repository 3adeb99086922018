/- The reader of codec: want, take. -/
import Derived.Test.YtgnkjhppfenmaaaSpec02
import Derived.Test.YtgnkjhppfenmaaaEWords
namespace Go.Proofs.Ytgnkjhppfenmaaa.Q
open Go.RowKit Go.Proofs.YtgnkjhppfenmaaaW.PrintWords Go.Proofs.YtgnkjhppfenmaaaW.PrintLast Go.Proofs.YtgnkjhppfenmaaaW.PrintMore
/-- the one error with which reading ends -/
def codeErr : List PanicEntry := [{ v := .iface 28 (.int .i64 10), recovered := false }]
/-- the reader at block g still has xs to read; the bytes came in by w0 -/
def RD (w0 W : World) (g : Nat) (xs : List Int) : Prop := ∃ A c, W.heap[g]? = some (.cells #[.slice A xs.length c] 56 (0, 0)) ∧ xs.length ≤ c ∧ (Kd.int .u8).C w0 A xs.length xs
theorem RD.mk' {w0 W : World} {g : Nat} {xs : List Int} {A : Option Addr} {n c : Nat} (hb : W.heap[g]? = some (.cells #[.slice A n c] 56 (0, 0))) (hn : n = xs.length) (hl : n ≤ c) (hC : (Kd.int .u8).C w0 A xs.length xs) : RD w0 W g xs := by
  subst hn
  exact ⟨A, c, hb, hl, hC⟩
/-- what stays, in a call that is handed the reader -/
structure RK (w0 w w' : World) (g : Nat) : Prop where
  b : Below w0.heap.size w0 w'
  k : KeepBut w w' g none
theorem RK.refl {w0 w : World} (h : Below w0.heap.size w0 w) (g : Nat) : RK w0 w w g := ⟨h, KeepBut.refl _ _ _⟩
theorem RK.trans {w0 w w1 w2 : World} {g : Nat} (h : RK w0 w w1 g) (k : RK w0 w1 w2 g) : RK w0 w w2 g := ⟨k.b, h.k.trans k.k (.inl rfl)⟩
theorem RK.alloc {w0 w w1 : World} {g : Nat} (h : RK w0 w w1 g) (o : Obj) (h0 : w0.heap.size ≤ w1.heap.size) : RK w0 w (w1.alloc o) g := ⟨h.b.alloc h0 o, keep_alloc h.k o⟩
set_option maxHeartbeats 2000000 in
set_option maxRecDepth 100000 in
theorem want_ok (p : Value) (w : World) : Calls Try.prog 29 #[p, .bool true] w fun e w' => e = .returned (.tuple #[]) ∧ w = w' := by
  go_enter Try.func29, Try.ntmps29
  go_wp2
  first | go_end0 | ((try simp only [Exit.inBlock, Exit.then]); refine bodyPost_ret (results_none rfl _ _ _) rfl ?_)
  exact ⟨rfl, rfl⟩
set_option maxHeartbeats 2000000 in
set_option maxRecDepth 100000 in
theorem want_not (p : Value) (w : World) : Calls Try.prog 29 #[p, .bool false] w fun e w' => e = .panicked codeErr ∧ w = w' := by
  have hu28 := Try.underlying28
  go_enter Try.func29, Try.ntmps29
  go_wp2
  exact ⟨rfl, rfl, rfl⟩
set_option maxHeartbeats 2000000 in
set_option maxRecDepth 100000 in
theorem take_no (g : Nat) (A : Option Addr) (n c : Nat) (m : Int) (w : World) (hb : w.heap[g]? = some (.cells #[.slice A n c] 56 (0, 0))) (hm : (n : Int) < m) :
    Calls Try.prog 40 #[.pointer (some ⟨g, 0, none⟩), .int .i64 m] w fun e w' => e = .panicked codeErr ∧ w = w' := by
  have hz : w.cell? ⟨g, 0, none⟩ = some (.slice A n c) := (blk_cell hb 0).trans rfl
  have hd : decide (m ≤ (n : Int)) = false := decide_eq_false (by omega)
  go_enter Try.func40, Try.ntmps40
  go_wp2_with (go_at_call 29; (refine (want_not _ _).mono ?_); rintro e w' ⟨rfl, rfl⟩)
  exact ⟨rfl, rfl, rfl⟩
set_option maxHeartbeats 2000000 in
set_option maxRecDepth 100000 in
theorem take_ok (g : Nat) (A : Option Addr) (n c : Nat) (m : Int) (w : World) (hb : w.heap[g]? = some (.cells #[.slice A n c] 56 (0, 0))) (h0 : 0 ≤ m) (hm : m ≤ (n : Int)) (hc : n ≤ c) :
    Calls Try.prog 40 #[.pointer (some ⟨g, 0, none⟩), .int .i64 m] w fun e w' => e = .returned (.slice A m.toNat m.toNat) ∧ w' = w.setCell ⟨g, 0, none⟩ (.slice (if c = m.toNat then A else A.map (·.add m.toNat)) (n - m.toNat) (c - m.toNat)) := by
  have hz : w.cell? ⟨g, 0, none⟩ = some (.slice A n c) := (blk_cell hb 0).trans rfl
  have hf := blk_frozen hb 0
  have hd : decide (m ≤ (n : Int)) = true := decide_eq_true hm
  go_enter Try.func40, Try.ntmps40
  go_wp2_with (go_at_call 29; (refine (want_ok _ _).mono ?_); rintro e w' ⟨rfl, rfl⟩)
  all_goals
    go_ret
    exact ⟨rfl, rfl⟩
/-- the reader behind a take -/
theorem RD.after {w0 w : World} {g : Nat} {xs : List Int} {A : Option Addr} {c : Nat} (m : Nat) (hB : Below w0.heap.size w0 w) (hg : w0.heap.size ≤ g) (hb : w.heap[g]? = some (.cells #[.slice A xs.length c] 56 (0, 0))) (hc : xs.length ≤ c) (hC : (Kd.int .u8).C w0 A xs.length xs) (hm : m ≤ xs.length) :
    RD w0 (w.setCell ⟨g, 0, none⟩ (.slice (if c = m then A else A.map (·.add m)) (xs.length - m) (c - m))) g (xs.drop m) ∧ RK w0 w (w.setCell ⟨g, 0, none⟩ (.slice (if c = m then A else A.map (·.add m)) (xs.length - m) (c - m))) g := by
  have h1 := Kd.C_drop hC hm hc
  refine ⟨RD.mk' (by simpa using blk_set hb 0 (.slice (if c = m then A else A.map (·.add m)) (xs.length - m) (c - m))) List.length_drop.symm (by omega) ?_, ⟨hB.setCell hg _, (KeepBut.refl w g none).set_ 0 _⟩⟩
  have h2 : (Kd.int .u8).sz = 1 := rfl
  rw [h2, Nat.mul_one] at h1
  exact h1
/-- take a byte -/
theorem take_byte {w0 w : World} {g : Nat} {c : Int} {xs : List Int} (hB : Below w0.heap.size w0 w) (hg : w0.heap.size ≤ g) (h : RD w0 w g (c :: xs)) :
    Calls Try.prog 40 #[.pointer (some ⟨g, 0, none⟩), .int .i64 1] w fun e w' => (∃ ad : Addr, e = .returned (.slice (some ad) 1 1) ∧ w'.cell? ad = some (.int .u8 c)) ∧ RD w0 w' g xs ∧ RK w0 w w' g := by
  obtain ⟨A, k, hb, hl, hC⟩ := h
  refine (take_ok g A _ k 1 w hb (by omega) (by simp; omega) hl).mono ?_
  rintro e w' ⟨rfl, rfl⟩
  obtain ⟨h1, h2⟩ := RD.after 1 hB hg hb hl hC (by simp)
  obtain ⟨ad, rfl, hz⟩ := Kd.at_int hC 0 (by omega) (by simp)
  refine ⟨⟨ad, rfl, ?_⟩, h1, h2⟩
  have hz2 : w0.cell? ad = some (.int .u8 c) := by simpa [rd, Addr.add] using hz
  exact (h2.b.cell (World.block_lt_of_cell? w0 _ hz2)).trans hz2
theorem take_none {w0 w : World} {g : Nat} (hB : Below w0.heap.size w0 w) (h : RD w0 w g []) :
    Calls Try.prog 40 #[.pointer (some ⟨g, 0, none⟩), .int .i64 1] w fun e w' => e = .panicked codeErr ∧ RK w0 w w' g := by
  obtain ⟨A, k, hb, hl, hC⟩ := h
  refine (take_no g A _ k 1 w hb (by simp)).mono ?_
  rintro e w' ⟨rfl, rfl⟩
  exact ⟨rfl, RK.refl hB g⟩
/-- take some bytes -/
theorem take_some {w0 w : World} {g : Nat} {xs : List Int} (m : Nat) (hB : Below w0.heap.size w0 w) (hg : w0.heap.size ≤ g) (h : RD w0 w g xs) (hm : m ≤ xs.length) :
    Calls Try.prog 40 #[.pointer (some ⟨g, 0, none⟩), .int .i64 (m : Int)] w fun e w' => (∃ A : Option Addr, e = .returned (.slice A m m) ∧ (Kd.int .u8).C w' A m (xs.take m)) ∧ RD w0 w' g (xs.drop m) ∧ RK w0 w w' g := by
  obtain ⟨A, k, hb, hl, hC⟩ := h
  refine (take_ok g A _ k (m : Int) w hb (by omega) (by omega) hl).mono ?_
  rintro e w' ⟨rfl, rfl⟩
  obtain ⟨h1, h2⟩ := RD.after m hB hg hb hl hC hm
  have h3 := Kd.C_take hC hm
  rw [List.length_take, Nat.min_eq_left hm] at h3
  exact ⟨⟨A, by simp, Kd.C_below h3 h2.b⟩, by simpa using h1, by simpa using h2⟩
end Go.Proofs.Ytgnkjhppfenmaaa.Q
