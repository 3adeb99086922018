/- codec.Same: the contract, with slices.EqualFunc. -/
import Derived.Test.YtgnkjhppfenmaaaSpec01
import Derived.Test.YtgnkjhppfenmaaaEWords
namespace Go.Proofs.Ytgnkjhppfenmaaa.Q
open Go.RowKit Go.Proofs.YtgnkjhppfenmaaaW.PrintWords Go.Proofs.YtgnkjhppfenmaaaW.PrintLast Go.Proofs.YtgnkjhppfenmaaaW.PrintMore
mutual
/-- are two values equal? -/
def sameV : S24 → S24 → Bool
  | ⟨k, n, s, l⟩, ⟨k2, n2, s2, l2⟩ => k == k2 && (n == n2 && (s.toList == s2.toList && (l.length == l2.length && sameL l l2)))
def sameL : List S24 → List S24 → Bool
  | [], _ => true
  | x :: r, m => match m with | [] => true | y :: r2 => sameV x y && sameL r r2
end
def SameSays (x : S24) : Prop := ∀ (y : S24) (A B : Option Addr) (c d : Nat) (w : World), Kd.C k24 w A x.f3.length x.f3 → x.f3.length ≤ c → Kd.C k24 w B y.f3.length y.f3 → y.f3.length ≤ d →
    Calls Try.prog 20 #[.agg #[.int .i64 x.f0, .int .i64 x.f1, .string x.f2, .slice A x.f3.length c], .agg #[.int .i64 y.f0, .int .i64 y.f1, .string y.f2, .slice B y.f3.length d]] w fun e w' => e = .returned (.bool (sameV x y)) ∧ Below w.heap.size w w'
set_option maxHeartbeats 8000000 in
set_option maxRecDepth 100000 in
theorem equal_func (A B : Option Addr) (c d : Nat) (l m : List S24) (w : World) (hA : Kd.C k24 w A l.length l) (hc : l.length ≤ c) (hB : Kd.C k24 w B m.length m) (hd : m.length ≤ d) (ih : ∀ x ∈ l, SameSays x) :
    Calls Try.prog 31 #[.slice A l.length c, .slice B m.length d, .func (Fn.func 20) #[] #[]] w fun e w' => e = .returned (.bool (l.length == m.length && sameL l m)) ∧ Below w.heap.size w w' := by
  have hu24 := Try.underlying24
  have HA := Aside0.mk hA
  have HB := Aside0.mk hB
  have IH := Aside0.mk ih
  clear hA hB ih hc hd
  by_cases hne : l.length = m.length
  · have hb1 : ((l.length : Int) != (m.length : Int)) = false := bne_eq_false_iff_eq.mpr (by omega)
    have hb2 : (l.length == m.length) = true := beq_iff_eq.mpr hne
    have HN := Aside0.mk hne
    rw [hb2, Bool.true_and]
    clear hne hb2
    go_enter Try.func31, Try.ntmps31
    go_wp2
    go_loopg [17] l.length (fun kq v17 w' => ∃ i : Int, v17 = .int .i64 i ∧ Aside0 (0 ≤ i ∧ (kq : Int) + i = l.length) ∧ Aside0 (sameL l m = sameL (l.drop i.toNat) (m.drop i.toNat)) ∧ Aside0 (Below w.heap.size w w'))
    case atStart => exact ⟨0, rfl, ⟨by omega⟩, ⟨by simp⟩, ⟨Below.refl _ _⟩⟩
    case round =>
      obtain ⟨i, rfl, HI, HS, HW⟩ := hrel
      by_cases hi : i < l.length
      · have hi0 : decide (i < (l.length : Int)) = true := decide_eq_true hi
        have hj : i < m.length := by have := HN.out; omega
        have hm := Aside0.mk (rd_mem l i HI.out.1 hi)
        have hdl := Aside0.mk (drop_rd l i HI.out.1 hi)
        have hdm := Aside0.mk (drop_rd m i HI.out.1 hj)
        have hw := Aside0.mk (wrap_at i l.length HI.out.1 hi HA.out.2.1)
        obtain ⟨ad, A3, c3, ha, hx0, hx1, hx2, hx3, hl3, hi3⟩ := at_T24 HA.out i HI.out.1 hi
        obtain ⟨bd, B3, d3, hb, hy0, hy1, hy2, hy3, hk3, hj3⟩ := at_T24 HB.out i HI.out.1 hj
        cases ha
        cases hb
        replace hx0 := (HW.out.cell (World.block_lt_of_cell? w _ hx0)).trans hx0
        replace hx1 := (HW.out.cell (World.block_lt_of_cell? w _ hx1)).trans hx1
        replace hx2 := (HW.out.cell (World.block_lt_of_cell? w _ hx2)).trans hx2
        replace hx3 := (HW.out.cell (World.block_lt_of_cell? w _ hx3)).trans hx3
        replace hy0 := (HW.out.cell (World.block_lt_of_cell? w _ hy0)).trans hy0
        replace hy1 := (HW.out.cell (World.block_lt_of_cell? w _ hy1)).trans hy1
        replace hy2 := (HW.out.cell (World.block_lt_of_cell? w _ hy2)).trans hy2
        replace hy3 := (HW.out.cell (World.block_lt_of_cell? w _ hy3)).trans hy3
        have ay0 := fun o => (World.cell?_alloc_lt wr o _ (World.block_lt_of_cell? wr _ hy0)).trans hy0
        have ay1 := fun o => (World.cell?_alloc_lt wr o _ (World.block_lt_of_cell? wr _ hy1)).trans hy1
        have ay2 := fun o => (World.cell?_alloc_lt wr o _ (World.block_lt_of_cell? wr _ hy2)).trans hy2
        have ay3 := fun o => (World.cell?_alloc_lt wr o _ (World.block_lt_of_cell? wr _ hy3)).trans hy3
        have hix := IH.out _ hm.out
        have hi1 := eq_true HI.out.1
        replace hi := eq_true hi
        replace hj := eq_true hj
        clear hm
        have C0 : ∀ W : World, Below w.heap.size w W → Calls Try.prog 20 #[.agg #[.int .i64 (rd_T24 l i).f0, .int .i64 (rd_T24 l i).f1, .string (rd_T24 l i).f2, .slice A3 (rd_T24 l i).f3.length c3], .agg #[.int .i64 (rd_T24 m i).f0, .int .i64 (rd_T24 m i).f1, .string (rd_T24 m i).f2, .slice B3 (rd_T24 m i).f3.length d3]] W fun e w' => e = .returned (.bool (sameV (rd_T24 l i) (rd_T24 m i))) ∧ Below W.heap.size W w' :=
          fun W hW => hix _ A3 B3 c3 d3 W (Kd.C_below hi3 hW) hl3 (Kd.C_below hj3 hW) hk3
        have C := Aside0.mk C0
        clear C0 hix hi3 hj3 hl3 hk3
        have hss : sameL (l.drop i.toNat) (m.drop i.toNat) = (sameV (rd_T24 l i) (rd_T24 m i) && sameL (l.drop (i + 1).toNat) (m.drop (i + 1).toNat)) := by
          rw [hdl.out, hdm.out, sameL]
        have HSS := Aside0.mk hss
        clear hss hdl hdm
        generalize rd_T24 l i = x at *
        generalize rd_T24 m i = y at *
        cases hs : sameV x y with
        | true =>
          rw [hs] at C
          go_wp2_with (go_at_call 20; (refine (C.out _ (below_alloc (below_alloc HW.out _) _)).mono ?_); rintro e w1 ⟨rfl, hb⟩; have HW1 := Aside0.mk (below_step (below_alloc (below_alloc HW.out _) _) hb); clear hb)
          go_roundg (gk - 1)
          case measure => have := HI.out; have := of_eq_true hi; omega
          case rel => exact ⟨i + 1, by rw [hw.out], ⟨by have := HI.out; have := of_eq_true hi; omega⟩, ⟨by rw [HS.out, HSS.out, hs, Bool.true_and]⟩, HW1⟩
        | false =>
          rw [hs] at C
          go_wp2_with (go_at_call 20; (refine (C.out _ (below_alloc (below_alloc HW.out _) _)).mono ?_); rintro e w1 ⟨rfl, hb⟩; have HW1 := Aside0.mk (below_step (below_alloc (below_alloc HW.out _) _) hb); clear hb)
          go_ret
          exact ⟨by rw [HS.out, HSS.out, hs]; rfl, HW1.out⟩
      · have hi0 : decide (i < (l.length : Int)) = false := decide_eq_false hi
        go_wp2
        go_ret
        refine ⟨?_, HW.out⟩
        rw [HS.out, show l.drop i.toNat = [] from List.drop_eq_nil_of_le (by omega), sameL]
        rfl
  · have hb1 : ((l.length : Int) != (m.length : Int)) = true := bne_iff_ne.mpr (by omega)
    have hb2 : (l.length == m.length) = false := beq_eq_false_iff_ne.mpr hne
    rw [hb2, Bool.false_and]
    clear hne hb2
    go_enter Try.func31, Try.ntmps31
    go_wp2
    go_ret
    exact ⟨rfl, Below.refl _ _⟩
set_option maxHeartbeats 8000000 in
set_option maxRecDepth 100000 in
theorem same_at (a0_0 : Int) (a0_1 : Int) (a0_2 : ByteArray) (A0_3 : Option Addr) (c0_3 : Nat) (l0_3 : List (S24)) (a1_0 : Int) (a1_1 : Int) (a1_2 : ByteArray) (A1_3 : Option Addr) (c1_3 : Nat) (l1_3 : List (S24)) (w : World) (hr0_3 : Kd.C k24 w A0_3 l0_3.length l0_3) (hc0_3 : l0_3.length ≤ c0_3) (hr1_3 : Kd.C k24 w A1_3 l1_3.length l1_3) (hc1_3 : l1_3.length ≤ c1_3) (ih : ∀ x ∈ l0_3, SameSays x) :
    Calls Try.prog 20 #[.agg #[.int .i64 a0_0, .int .i64 a0_1, .string a0_2, .slice A0_3 l0_3.length c0_3], .agg #[.int .i64 a1_0, .int .i64 a1_1, .string a1_2, .slice A1_3 l1_3.length c1_3]] w fun e w' => e = .returned (.bool (sameV ⟨a0_0, a0_1, a0_2, l0_3⟩ ⟨a1_0, a1_1, a1_2, l1_3⟩)) ∧ Below w.heap.size w w' := by
  rw [sameV]
  have hu24 := Try.underlying24
  have C := Aside0.mk (fun (W : World) (hW : Below w.heap.size w W) => equal_func A0_3 A1_3 c0_3 c1_3 l0_3 l1_3 W (Kd.C_below hr0_3 hW) hc0_3 (Kd.C_below hr1_3 hW) hc1_3 ih)
  have hB := Aside0.mk (Below.refl w.heap.size w)
  clear hr0_3 hr1_3 hc0_3 hc1_3 ih
  cases e1 : (a0_0 == a1_0) with
  | false =>
    go_enter Try.func20, Try.ntmps20
    go_wp2
    go_ret
    exact ⟨by simp, below_alloc (below_alloc hB.out _) _⟩
  | true =>
  cases e2 : (a0_1 == a1_1) with
  | false =>
    go_enter Try.func20, Try.ntmps20
    go_wp2
    go_ret
    exact ⟨by simp, below_alloc (below_alloc hB.out _) _⟩
  | true =>
  cases e3 : (a0_2.toList == a1_2.toList) with
  | false =>
    go_enter Try.func20, Try.ntmps20
    go_wp2
    go_ret
    exact ⟨by simp, below_alloc (below_alloc hB.out _) _⟩
  | true =>
    simp only [Bool.true_and]
    go_enter Try.func20, Try.ntmps20
    go_wp2_with (go_at_call 31; (refine (C.out _ (below_alloc (below_alloc hB.out _) _)).mono ?_); rintro e w1 ⟨rfl, hb⟩)
    go_ret
    exact ⟨by simp, below_step (below_alloc (below_alloc hB.out _) _) hb⟩
theorem S24.size_lt {x : S24} {k n : Int} {s : ByteArray} {l : List S24} (h : x ∈ l) : SizeOf.sizeOf x < SizeOf.sizeOf (S24.mk k n s l) := by
  have := List.sizeOf_lt_of_mem h
  simp
  omega
theorem same_says : ∀ x : S24, SameSays x
  | ⟨k, n, s, l⟩ => fun ⟨k2, n2, s2, l2⟩ A B c d w hA hc hB hd => same_at k n s A c l k2 n2 s2 B d l2 w hA hc hB hd (fun z hz => same_says z)
termination_by x => SizeOf.sizeOf x
decreasing_by exact S24.size_lt hz
def codec_Same.f (a0_0 : Int) (a0_1 : Int) (a0_2 : ByteArray) (l0_3 : List (S24)) (a1_0 : Int) (a1_1 : Int) (a1_2 : ByteArray) (l1_3 : List (S24)) : Option (Bool) := some (sameV ⟨a0_0, a0_1, a0_2, l0_3⟩ ⟨a1_0, a1_1, a1_2, l1_3⟩)
theorem codec_Same.calls (a0_0 : Int) (a0_1 : Int) (a0_2 : ByteArray) (A0_3 : Option Addr) (c0_3 : Nat) (l0_3 : List (S24)) (a1_0 : Int) (a1_1 : Int) (a1_2 : ByteArray) (A1_3 : Option Addr) (c1_3 : Nat) (l1_3 : List (S24)) (r : Bool) (w : World) (hr0_3 : Kd.C k24 w A0_3 l0_3.length l0_3) (hc0_3 : l0_3.length ≤ c0_3) (hr1_3 : Kd.C k24 w A1_3 l1_3.length l1_3) (hc1_3 : l1_3.length ≤ c1_3) (h : codec_Same.f a0_0 a0_1 a0_2 l0_3 a1_0 a1_1 a1_2 l1_3 = some r) :
    Calls Try.prog 20 #[.agg #[.int .i64 a0_0, .int .i64 a0_1, .string a0_2, .slice A0_3 l0_3.length c0_3], .agg #[.int .i64 a1_0, .int .i64 a1_1, .string a1_2, .slice A1_3 l1_3.length c1_3]] w fun e w' => e = .returned (.bool r) ∧ Below w.heap.size w w' := by
  cases h
  exact same_says ⟨a0_0, a0_1, a0_2, l0_3⟩ ⟨a1_0, a1_1, a1_2, l1_3⟩ A0_3 A1_3 c0_3 c1_3 w hr0_3 hc0_3 hr1_3 hc1_3
end Go.Proofs.Ytgnkjhppfenmaaa.Q
