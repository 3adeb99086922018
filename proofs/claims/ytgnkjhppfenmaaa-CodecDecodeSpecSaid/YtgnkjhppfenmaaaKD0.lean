/- The proof's texts, part 1 of 7. -/
import Derived.ArgAppend
import Derived.Below
import Derived.BigQuiet
import Derived.Deep.AppendLies
import Derived.Deep.CutBlock
import Derived.Deep.DeepCutAuto
import Derived.Deep.Draws
import Derived.Deep.LoopGhost
import Derived.Deep.OwnRows
import Derived.Deep.QuietTactic
import Derived.Deep.RegionHeld3
import Derived.KernelRfl
import Derived.Laws.BitsLemmas
import Derived.Laws.BytesArg
import Derived.Laws.IdiomCopy
import Derived.Laws.MakeOwn
import Derived.Laws.OwnMore
import Derived.Laws.Rows
import Derived.Laws.Slices
import Derived.Lib.AppendStr
import Derived.Lib.ConvBytes
import Derived.Maps.AppendAt
import Derived.OrdersHeld
import Derived.OwnWalk
import Derived.RowKit
import Derived.RowKit3
import Derived.Tactics
import Derived.Test.YtgnkjhppfenmaaaProg
import Derived.Test.YtgnkjhppfenmaaaWApart
import Derived.Test.YtgnkjhppfenmaaaWArr
import Derived.Test.YtgnkjhppfenmaaaWAt
import Derived.Test.YtgnkjhppfenmaaaWEqStruct
import Derived.Test.YtgnkjhppfenmaaaWFoot
import Derived.Test.YtgnkjhppfenmaaaWFootNe
import Derived.Test.YtgnkjhppfenmaaaWFour
import Derived.Test.YtgnkjhppfenmaaaWGuard
import Derived.Test.YtgnkjhppfenmaaaWInv
import Derived.Test.YtgnkjhppfenmaaaWInvWords
import Derived.Test.YtgnkjhppfenmaaaWKept
import Derived.Test.YtgnkjhppfenmaaaWLast
import Derived.Test.YtgnkjhppfenmaaaWMore
import Derived.Test.YtgnkjhppfenmaaaWN
import Derived.Test.YtgnkjhppfenmaaaWNEv
import Derived.Test.YtgnkjhppfenmaaaWQPut
import Derived.Test.YtgnkjhppfenmaaaWRepsOne
import Derived.Test.YtgnkjhppfenmaaaWShare
import Derived.Test.YtgnkjhppfenmaaaWTab
import Derived.Test.YtgnkjhppfenmaaaWWords
import Derived.Test.YtgnkjhppfenmaaaWZeros
import Derived.WalkKit
import Derived.WideLaws
set_option linter.unusedVariables false
set_option linter.unusedSimpArgs false
namespace Go.Proofs.Ytgnkjhppfenmaaa.Q
open Go.RowKit Go.Proofs.YtgnkjhppfenmaaaW.PrintWords Go.Proofs.YtgnkjhppfenmaaaW.PrintLast Go.Proofs.YtgnkjhppfenmaaaW.PrintMore
attribute [local go_sem] max2_int min2_int max_two min_two max_three min_three max_four min_four   -- for this text's walks alone
set_option linter.unusedVariables false
set_option linter.unusedSimpArgs false

def errW : Option Int → Value
  | none => .nilIface
  | some c => .iface 0 (.int .i64 c)
theorem errW_none : errW none = .nilIface := rfl
theorem errW_some (c : Int) : errW (some c) = .iface 0 (.int .i64 c) := rfl

theorem info5 : (Try.prog.info? 5).map (fun i => (i.zero, i.size, i.bytes)) = some (some (.int .u8 0), 1, 1) := by kernel_rfl
theorem info24 : (Try.prog.info? 24).map (fun i => (i.zero, i.size, i.bytes)) = some (some (.agg #[(.int .i64 0), (.int .i64 0), (.string ⟨#[]⟩), (.slice none 0 0)]), 4, 56) := by kernel_rfl
-- the values' own types
/-! #### struct type 24, nested in itself -/
structure S24 where
  f0 : Int
  f1 : Int
  f2 : ByteArray
  f3 : (List S24)
def z24 : S24 := ⟨(0 : Int), (0 : Int), (⟨#[]⟩ : ByteArray), ([] : List S24)⟩
def F24 (d : Kd S24) : Kd S24 := Kd.iso (Kd.pair (Kd.int .i64) (Kd.pair (Kd.int .i64) (Kd.pair Kd.string (Kd.slice 24 d)))) (fun x : S24 => (x.f0, x.f1, x.f2, x.f3))
theorem mono24 : Kd.Mono F24 := Kd.mono_iso _ (Kd.mono_pair (Kd.mono_const _) (Kd.mono_pair (Kd.mono_const _) (Kd.mono_pair (Kd.mono_const _) (Kd.mono_slice 24 Kd.mono_id))))
theorem sub24 : Kd.Sub F24 [24] := Kd.sub_iso _ (Kd.sub_pair (Kd.sub_const _ (by decide)) (Kd.sub_pair (Kd.sub_const _ (by decide)) (Kd.sub_pair (Kd.sub_const _ (by decide)) (Kd.sub_slice 24 (by decide) Kd.sub_id))))
theorem sz24 : ∀ n, (Kd.upto F24 4 [24] n).sz = 4 := Kd.upto_sz (fun _ => rfl)
def k24 : Kd S24 := Kd.fix F24 4 [24] sz24 (Kd.upto_E sub24)
theorem k24_open {w : World} {x : S24} {cs : List Value} (h : k24.K w x cs) : ∃ A3 c3, cs = [.int .i64 x.f0, .int .i64 x.f1, .string x.f2, .slice A3 x.f3.length c3] ∧ x.f3.length ≤ c3 ∧ k24.C w A3 x.f3.length x.f3 := by
  obtain ⟨n, h⟩ := h
  cases n with
  | zero => exact h.elim
  | succ n =>
    obtain ⟨_, _, rfl, rfl, ⟨_, _, rfl, rfl, ⟨_, _, rfl, rfl, ⟨A3, c3, rfl, l3, g3⟩⟩⟩⟩ := h
    exact ⟨A3, c3, rfl, l3, Kd.fix_C g3⟩
theorem k24_openM {w : World} {base : Nat} {ok : Nat → Prop} {x : S24} {cs : List Value} (h : k24.M w base ok x cs) : ∃ v3, cs = [.int .i64 x.f0, .int .i64 x.f1, .string x.f2, v3] ∧ k24.R 24 w base ok v3 x.f3 := by
  obtain ⟨n, h⟩ := h
  cases n with
  | zero => exact h.elim
  | succ n =>
    obtain ⟨_, _, rfl, rfl, ⟨_, _, rfl, rfl, ⟨_, _, rfl, rfl, ⟨v3, rfl, g3⟩⟩⟩⟩ := h
    exact ⟨v3, rfl, Kd.fix_R g3⟩
theorem k24_mk (w : World) (x : S24) {A3 : Option Addr} {c3 : Nat} (l3 : x.f3.length ≤ c3) (g3 : k24.C w A3 x.f3.length x.f3) : k24.K w x [.int .i64 x.f0, .int .i64 x.f1, .string x.f2, .slice A3 x.f3.length c3] := by
  obtain ⟨n3, q3⟩ := Kd.fix_C_back mono24 g3
  have r3 := Kd.upto_C_le mono24 sz24 (show n3 ≤ n3 by omega) q3
  exact ⟨n3 + 1, ⟨[.int .i64 x.f0], [.int .i64 x.f1, .string x.f2, .slice A3 x.f3.length c3], rfl, rfl, ⟨[.int .i64 x.f1], [.string x.f2, .slice A3 x.f3.length c3], rfl, rfl, ⟨[.string x.f2], [.slice A3 x.f3.length c3], rfl, rfl, ⟨A3, c3, rfl, l3, r3⟩⟩⟩⟩⟩
theorem k24_mkM (w : World) (base : Nat) (ok : Nat → Prop) (x : S24) {v3 : Value} (g3 : k24.R 24 w base ok v3 x.f3) : k24.M w base ok x [.int .i64 x.f0, .int .i64 x.f1, .string x.f2, v3] := by
  obtain ⟨n3, q3⟩ := Kd.fix_R_back mono24 g3
  have r3 := Kd.upto_R_le mono24 sz24 (show n3 ≤ n3 by omega) q3
  exact ⟨n3 + 1, ⟨[.int .i64 x.f0], [.int .i64 x.f1, .string x.f2, v3], rfl, rfl, ⟨[.int .i64 x.f1], [.string x.f2, v3], rfl, rfl, ⟨[.string x.f2], [v3], rfl, rfl, ⟨v3, rfl, r3⟩⟩⟩⟩⟩
theorem k24_openF {W : World} {ok : Nat → Prop} {x : S24} {cs : List Value} (h : Kd.FK k24 W ok x cs) : ∃ A3 c3, cs = [.int .i64 x.f0, .int .i64 x.f1, .string x.f2, .slice A3 x.f3.length c3] ∧ x.f3.length ≤ c3 ∧ Kd.F k24 W ok A3 x.f3.length x.f3 := by
  obtain ⟨A3, c3, rfl, l3, _⟩ := k24_open (Kd.FK_now h)
  exact ⟨A3, c3, rfl, l3, (fun W' hW => by obtain ⟨A3_, c3_, he, l3_, g3_⟩ := k24_open (h W' hW); injection (Option.some.inj (show some (Value.slice A3 x.f3.length c3) = some (Value.slice A3_ x.f3.length c3_) from congrArg (fun l => l[3]?) he)) with ha_ _ _; rw [ha_]; exact g3_)⟩
theorem k24_mkF (W : World) (ok : Nat → Prop) (x : S24) {A3 : Option Addr} {c3 : Nat} (l3 : x.f3.length ≤ c3) (g3 : Kd.F k24 W ok A3 x.f3.length x.f3) : Kd.FK k24 W ok x [.int .i64 x.f0, .int .i64 x.f1, .string x.f2, .slice A3 x.f3.length c3] := fun W2 hW => k24_mk W2 x l3 (g3 W2 hW)
def rd_T24 (xs : List S24) (i : Int) : S24 := xs.getD i.toNat z24
theorem at_T24 {w : World} {A : Option Addr} {n : Nat} {xs : List S24} (h : Kd.C k24 w A n xs) (i : Int) (h0 : 0 ≤ i) (h1 : i < n) : ∃ ad A3 c3, A = some ad ∧ w.cell? (ad.add (i.toNat * 4)) = some (.int .i64 (rd_T24 xs i).f0) ∧ w.cell? ⟨(ad.add (i.toNat * 4)).block, (ad.add (i.toNat * 4)).off + 1, none⟩ = some (.int .i64 (rd_T24 xs i).f1) ∧ w.cell? ⟨(ad.add (i.toNat * 4)).block, (ad.add (i.toNat * 4)).off + 2, none⟩ = some (.string (rd_T24 xs i).f2) ∧ w.cell? ⟨(ad.add (i.toNat * 4)).block, (ad.add (i.toNat * 4)).off + 3, none⟩ = some (.slice A3 (rd_T24 xs i).f3.length c3) ∧ (rd_T24 xs i).f3.length ≤ c3 ∧ k24.C w A3 (rd_T24 xs i).f3.length (rd_T24 xs i).f3 := by
  obtain ⟨ad, c, e, _, hK, hc0⟩ := Kd.C_get h z24 i h0 h1
  have hc : ∀ j u, c[j]? = some u → w.cell? (ad.add (i.toNat * 4 + j)) = some u := hc0
  obtain ⟨A3, c3, rfl, l3, g3⟩ := k24_open hK
  exact ⟨ad, A3, c3, e, hc 0 _ rfl, by rw [← add_field _ _ 1 (by omega)]; exact hc 1 _ rfl, by rw [← add_field _ _ 2 (by omega)]; exact hc 2 _ rfl, by rw [← add_field _ _ 3 (by omega)]; exact hc 3 _ rfl, l3, g3⟩

end Go.Proofs.Ytgnkjhppfenmaaa.Q
namespace Go.Proofs.Ytgnkjhppfenmaaa.Q
open Go.RowKit Go.Proofs.YtgnkjhppfenmaaaW.PrintWords Go.Proofs.YtgnkjhppfenmaaaW.PrintLast Go.Proofs.YtgnkjhppfenmaaaW.PrintMore
attribute [local go_sem] max2_int min2_int max_two min_two max_three min_three max_four min_four   -- for this text's walks alone
set_option linter.unusedVariables false
set_option linter.unusedSimpArgs false

/-! ### codec_numeral: function 34 -/
def codec_numeral.l0 : Nat → List Int → Int → Option (List Int)
  | 0, _, _ => none
  | k + 1, x0, x1 => if x1 ≥ 128 then (if x0.length < 140737488355328 then (codec_numeral.l0 k (x0 ++ [Go.bits .or .u8 ((x1) % 256) 128]) (x1 / 128)) else (none)) else (if x0.length < 140737488355328 then (some (x0 ++ [(x1) % 256])) else (none))
def codec_numeral.f (k : Nat) (l0 : List Int) (a1 : Int) : Option (List Int) := codec_numeral.l0 k l0 a1
theorem codec_numeral.mono_l : ∀ k, (∀ y0 y1, LeO (codec_numeral.l0 k y0 y1) (codec_numeral.l0 (k + 1) y0 y1))
  | 0 => fun _ _ r h => by simp [codec_numeral.l0] at h
  | k + 1 => by
    have ih0 := codec_numeral.mono_l k
    · intro y0 y1
      unfold codec_numeral.l0
      repeat' first
      | (with_reducible exact ih0 _ _)
      | (with_reducible exact LeO.refl _)
      | (with_reducible exact LeO.none _)
      | (with_reducible refine LeO.ite ?_ ?_)
      | (with_reducible refine LeO.bind ?_ (fun _ => ?_))
      | exact ih0 _ _
      | exact LeO.none _
      | refine LeO.ite ?_ ?_
      | refine LeO.bind ?_ (fun _ => ?_)
theorem codec_numeral.mono : ∀ a0 a1 k, LeO (codec_numeral.f k a0 a1) (codec_numeral.f (k + 1) a0 a1) := by
  intro a0 a1 k
  have ih0 := codec_numeral.mono_l k
  unfold codec_numeral.f
  repeat' first
      | (with_reducible exact ih0 _ _)
      | (with_reducible exact LeO.refl _)
      | (with_reducible exact LeO.none _)
      | (with_reducible refine LeO.ite ?_ ?_)
      | (with_reducible refine LeO.bind ?_ (fun _ => ?_))
      | exact ih0 _ _
      | exact LeO.none _
      | refine LeO.ite ?_ ?_
      | refine LeO.bind ?_ (fun _ => ?_)
set_option maxHeartbeats 8000000 in
set_option maxRecDepth 100000 in
theorem codec_numeral.calls (k : Nat) (P0_ : Nat → Prop) (u9000_ : Value) (l0 : List Int) (a1 : Int) (r : List Int) (w0 w : World) (hB : Below w0.heap.size w0 w) (ho0 : Kd.R (Kd.int .u8) 5 w w0.heap.size P0_ u9000_ l0) (h : codec_numeral.f k l0 a1 = some r) :
    Calls Try.prog 34 #[u9000_, .int .u64 a1] w fun e w' => ∃ v0_ : Value, e = .returned (v0_) ∧ Kd.R (Kd.int .u8) 5 w' w0.heap.size (fun k_ => (P0_ k_ ∨ w.heap.size ≤ k_)) v0_ r ∧ Below w0.heap.size w0 w' ∧ Kept w w' (fun k_ => P0_ k_) := by
  have HO0 := Aside0.mk (show Kd.R (Kd.int .u8) 5 w w0.heap.size (fun k_ => (P0_ k_ ∨ w.heap.size ≤ k_)) u9000_ l0 from Kd.R_mono ho0 (fun k_ hk => (.inl hk)))
  have HK := Aside0.mk (Kept.refl w (fun k_ => P0_ k_))
  have HW0 := Aside0.mk hB.size
  have HB := Aside0.mk hB
  clear hB
  have H : (codec_numeral.l0 k l0 a1) = some r := h
  clear h
  have H' := Aside0.mk H
  clear H
  go_enter Try.func34, Try.ntmps34
  go_wp2
  go_loopg [0, 1] k (fun kq v0 v1 w' => ∃ (x0_1 : List Int) (x1_1 : Int), v1 = .int .u64 x1_1 ∧ Aside0 (codec_numeral.l0 kq x0_1 x1_1 = some r) ∧ Aside0 (kq ≤ k) ∧ Aside0 (Kd.R (Kd.int .u8) 5 w' w0.heap.size (fun k_ => (P0_ k_ ∨ w.heap.size ≤ k_)) v0 x0_1) ∧ Aside0 (Kept w w' (fun k_ => P0_ k_)) ∧ Aside0 (Below w0.heap.size w0 w'))
  case atStart => exact ⟨(l0), (a1), (by first | rfl | (simp; done) | (simp [*]; done)), H', ⟨Nat.le_refl _⟩, ⟨by (with_reducible repeat (first | apply Kd.R_alloc | apply Kd.R_drewN | apply Kd.R_drew)); exact HO0.out⟩, ⟨by repeat (first | (with_reducible first | exact HK.out | apply Kept.alloc | apply Kept.drewN | apply Kept.drew) | exact HK.out)⟩, ⟨by repeat (first | (with_reducible first | exact HB.out | apply below_alloc | apply pw_below_drewN | apply below_drew1) | exact HB.out)⟩⟩
  case round =>
    clear H'
    try clear p2
    obtain ⟨x0_1, x1_1, rfl, HA, HK1, HO_0, HK, HB⟩ := hrel
    cases gk with
    | zero => exact absurd HA.out (by simp [codec_numeral.l0])
    | succ k1 =>
      have H := HA.out
      clear HA
      simp only [codec_numeral.l0] at H
      by_cases c3 : x1_1 ≥ 128
      · rw [if_pos c3] at H
        have c3b0 : decide (128 ≤ x1_1) = true := decide_eq_true c3
        clear c3
        by_cases c4 : x0_1.length < 140737488355328
        · rw [if_pos c4] at H
          have LMc4 := Aside0.mk c4
          clear c4
          obtain ⟨y101, hy101⟩ : ∃ y_ : List Int, y_ = (x0_1 ++ [Go.bits .or .u8 ((x1_1) % 256) 128]) := ⟨_, rfl⟩
          replace H : (codec_numeral.l0 k1 y101 (x1_1 / 128)) = some r := by first | (rw [hy101]; with_reducible exact H) | (have H2_ := (Option.bind_some _ _).symm.trans H; rw [hy101]; with_reducible exact H2_) | (have H2_ := (Option.bind_some _ _).symm.trans H; with_reducible exact H2_) | with_reducible exact H | (rw [hy101]; exact H) | exact H
          have Ny101 := Aside0.mk hy101
          clear hy101
          have H' := Aside0.mk H
          clear H
          go_wp2_with (first | ((with_reducible refine gate_builtin (b := .append) (xs := #[.tmp 9, .tmp 13]) rfl ?_); at_builtin; refine Kd.R_append (Kd.int .u8) (w0 := w0) w0.heap.size rfl (.tmp 9) (.tmp 13) 27 5 (.int .u8 0) 1 rfl Try.underlying27 info5 rfl (by decide) (by omega) u0 x0_1 (Go.bits .or .u8 ((x1_1) % 256) 128) [.int .u8 (Go.bits .or .u8 ((x1_1) % 256) 128)] (fun k_ => (P0_ k_ ∨ w.heap.size ≤ k_)) (fun _ => False) rfl rfl ?aP (fun _ hk => hk.elim) ?aF ?aO ?aB ?aS ?aL ?_; (case aP => exact rfl); (case aB => exact (by repeat (first | (with_reducible first | exact HB.out | apply below_alloc | apply pw_below_drewN | apply below_drew1) | exact HB.out))); (case aF => exact (fun k_ hk => (.inr (Nat.le_trans (by first | exact HK.out.1 | exact (show Kept w _ (fun k_ => P0_ k_) from by repeat (first | (with_reducible first | exact HK.out | apply Kept.alloc | apply Kept.drewN | apply Kept.drew) | exact HK.out)).1) hk)))); (case aO => exact (by (with_reducible repeat (first | apply Kd.R_alloc | apply Kd.R_drewN | apply Kd.R_drew)); exact HO_0.out)); (case aS => exact (below_size (by repeat (first | (with_reducible first | exact HB.out | apply below_alloc | apply pw_below_drewN | apply below_drew1) | exact HB.out)))); (case aL => have := LMc4.out; omega); intro v102 w5 ho hb hg hat; rw [← Ny101.out] at ho; have n0_ := Aside0.mk (hb); have n1_ := Aside0.mk (Kept.of_grown (S := (fun k_ => P0_ k_)) hg (by repeat (first | (with_reducible first | exact HK.out | apply Kept.alloc | apply Kept.drewN | apply Kept.drew) | exact HK.out)) (fun k_ e_ => (HO_0.out.1 k_ e_))); have n2_ := Aside0.mk (ho); clear HB; clear HK; clear HO_0; have HB := n0_; have HK := n1_; have HO103 := n2_; clear n0_ n1_ n2_; clear ho hb hg hat))
          go_roundg k1
          case measure => have := HK1.out; omega
          case rel => exact ⟨(y101), (x1_1 / 128), (by first | rfl | (simp; done) | (simp [*]; done)), H', ⟨by have := HK1.out; omega⟩, ⟨by (with_reducible repeat (first | apply Kd.R_alloc | apply Kd.R_drewN | apply Kd.R_drew)); exact HO103.out⟩, ⟨by repeat (first | (with_reducible first | exact HK.out | apply Kept.alloc | apply Kept.drewN | apply Kept.drew) | exact HK.out)⟩, ⟨by repeat (first | (with_reducible first | exact HB.out | apply below_alloc | apply pw_below_drewN | apply below_drew1) | exact HB.out)⟩⟩
        · rw [if_neg c4] at H
          exact absurd H (by simp)
      · rw [if_neg c3] at H
        have c3b0 : decide (128 ≤ x1_1) = false := decide_eq_false c3
        clear c3
        by_cases c6 : x0_1.length < 140737488355328
        · rw [if_pos c6] at H
          have LMc6 := Aside0.mk c6
          clear c6
          obtain ⟨y104, hy104⟩ : ∃ y_ : List Int, y_ = (x0_1 ++ [(x1_1) % 256]) := ⟨_, rfl⟩
          replace H : (some y104) = some r := by first | (rw [hy104]; with_reducible exact H) | (have H2_ := (Option.bind_some _ _).symm.trans H; rw [hy104]; with_reducible exact H2_) | (have H2_ := (Option.bind_some _ _).symm.trans H; with_reducible exact H2_) | with_reducible exact H | (rw [hy104]; exact H) | exact H
          have Ny104 := Aside0.mk hy104
          clear hy104
          obtain rfl := Option.some.inj H
          go_wp2_with (first | ((with_reducible refine gate_builtin (b := .append) (xs := #[.tmp 15, .tmp 18]) rfl ?_); at_builtin; refine Kd.R_append (Kd.int .u8) (w0 := w0) w0.heap.size rfl (.tmp 15) (.tmp 18) 27 5 (.int .u8 0) 1 rfl Try.underlying27 info5 rfl (by decide) (by omega) u0 x0_1 ((x1_1) % 256) [.int .u8 ((x1_1) % 256)] (fun k_ => (P0_ k_ ∨ w.heap.size ≤ k_)) (fun _ => False) rfl rfl ?aP (fun _ hk => hk.elim) ?aF ?aO ?aB ?aS ?aL ?_; (case aP => exact rfl); (case aB => exact (by repeat (first | (with_reducible first | exact HB.out | apply below_alloc | apply pw_below_drewN | apply below_drew1) | exact HB.out))); (case aF => exact (fun k_ hk => (.inr (Nat.le_trans (by first | exact HK.out.1 | exact (show Kept w _ (fun k_ => P0_ k_) from by repeat (first | (with_reducible first | exact HK.out | apply Kept.alloc | apply Kept.drewN | apply Kept.drew) | exact HK.out)).1) hk)))); (case aO => exact (by (with_reducible repeat (first | apply Kd.R_alloc | apply Kd.R_drewN | apply Kd.R_drew)); exact HO_0.out)); (case aS => exact (below_size (by repeat (first | (with_reducible first | exact HB.out | apply below_alloc | apply pw_below_drewN | apply below_drew1) | exact HB.out)))); (case aL => have := LMc6.out; omega); intro v105 w7 ho hb hg hat; rw [← Ny104.out] at ho; have n0_ := Aside0.mk (hb); have n1_ := Aside0.mk (Kept.of_grown (S := (fun k_ => P0_ k_)) hg (by repeat (first | (with_reducible first | exact HK.out | apply Kept.alloc | apply Kept.drewN | apply Kept.drew) | exact HK.out)) (fun k_ e_ => (HO_0.out.1 k_ e_))); have n2_ := Aside0.mk (ho); clear HB; clear HK; clear HO_0; have HB := n0_; have HK := n1_; have HO106 := n2_; clear n0_ n1_ n2_; clear ho hb hg hat))
          go_ret
          exact ⟨_, by first | rfl | (simp [errW_none, errW_some] <;> rfl) | (simp [*, errW_none, errW_some] <;> rfl), by (with_reducible repeat (first | apply Kd.R_alloc | apply Kd.R_drewN | apply Kd.R_drew)); exact HO106.out, by repeat (first | (with_reducible first | exact HB.out | apply below_alloc | apply pw_below_drewN | apply below_drew1) | exact HB.out), by repeat (first | (with_reducible first | exact HK.out | apply Kept.alloc | apply Kept.drewN | apply Kept.drew) | exact HK.out)⟩
        · rw [if_neg c6] at H
          exact absurd H (by simp)

end Go.Proofs.Ytgnkjhppfenmaaa.Q
namespace Go.Proofs.Ytgnkjhppfenmaaa.Q
open Go.RowKit Go.Proofs.YtgnkjhppfenmaaaW.PrintWords Go.Proofs.YtgnkjhppfenmaaaW.PrintLast Go.Proofs.YtgnkjhppfenmaaaW.PrintMore
attribute [local go_sem] max2_int min2_int max_two min_two max_three min_three max_four min_four   -- for this text's walks alone
set_option linter.unusedVariables false
set_option linter.unusedSimpArgs false

/-! ### codec_unsigned: function 35 -/
def codec_unsigned.f (a0 : Int) : Option (Int) := some (Go.bits .xor .u64 (IntKind.u64.wrap ((IntKind.u64.wrap (a0)) * 2)) (IntKind.u64.wrap (a0 / 9223372036854775808)))
set_option maxHeartbeats 8000000 in
set_option maxRecDepth 100000 in
theorem codec_unsigned.calls (a0 : Int) (r : Int) (w : World) (h : codec_unsigned.f a0 = some r) :
    Calls Try.prog 35 #[.int .i64 a0] w fun e w' => e = .returned (.int .u64 r) ∧ Drawn0 w w' := by
  have H : (some (Go.bits .xor .u64 (IntKind.u64.wrap ((IntKind.u64.wrap (a0)) * 2)) (IntKind.u64.wrap (a0 / 9223372036854775808)))) = some r := h
  clear h
  obtain rfl := Option.some.inj H
  go_enter Try.func35, Try.ntmps35
  go_wp2
  go_ret
  exact ⟨by first | rfl | (simp; done) | (simp [*]; done), by repeat (first | exact Drawn0.refl _ | apply Drawn0.step)⟩

end Go.Proofs.Ytgnkjhppfenmaaa.Q
/- The plain functions of layer 1 (codec): what the walks say is computed; no program in sight. -/
namespace Go.Proofs.Ytgnkjhppfenmaaa.Q
open Go.RowKit Go.Proofs.YtgnkjhppfenmaaaW.PrintWords Go.Proofs.YtgnkjhppfenmaaaW.PrintLast Go.Proofs.YtgnkjhppfenmaaaW.PrintMore

/-- is the part of a value that its kind does not use empty? -/
def usedV (k n : Int) (s : ByteArray) (m : Nat) : Bool :=
  if k = 1 then s.toList.isEmpty && m == 0 else if k = 2 then n == 0 && m == 0 else if k = 3 then n == 0 && s.toList.isEmpty else false

mutual
/-- depth and well-formedness -/
def formedV : S24 → Int × Bool
  | ⟨k, n, s, l⟩ => if usedV k n s l.length = true then (if k = 3 then match formedL l 0 with | some d => (wrap64 (d + 1), true) | none => (0, false) else (0, true)) else (0, false)
def formedL : List S24 → Int → Option Int
  | [], d => some d
  | x :: r, d => match formedV x with | (n, true) => formedL r (if d < n then n else d) | (_, false) => none
end
theorem usedV_one (n : Int) (s : ByteArray) (m : Nat) : usedV 1 n s m = (s.toList.isEmpty && (m : Int) == 0) := by
  unfold usedV; rw [if_pos rfl]; congr 1
  rw [Bool.eq_iff_iff]; simp
theorem usedV_two (n : Int) (s : ByteArray) (m : Nat) : usedV 2 n s m = (n == 0 && (m : Int) == 0) := by
  unfold usedV; rw [if_neg (by decide), if_pos rfl]; congr 1
  rw [Bool.eq_iff_iff]; simp
theorem usedV_three (n : Int) (s : ByteArray) (m : Nat) : usedV 3 n s m = (n == 0 && s.toList.isEmpty) := by
  unfold usedV; rw [if_neg (by decide), if_neg (by decide), if_pos rfl]
theorem usedV_out (k n : Int) (s : ByteArray) (m : Nat) (h : k < 1 ∨ 3 < k) : usedV k n s m = false := by
  unfold usedV; rw [if_neg (by omega), if_neg (by omega), if_neg (by omega)]
theorem formedV_not {k n : Int} {s : ByteArray} {l : List S24} (h : usedV k n s l.length = false) : formedV ⟨k, n, s, l⟩ = (0, false) := by
  rw [formedV, h]; rfl
theorem formedV_plain {k n : Int} {s : ByteArray} {l : List S24} (h : usedV k n s l.length = true) (hk : k ≠ 3) : formedV ⟨k, n, s, l⟩ = (0, true) := by
  rw [formedV, h, if_pos rfl, if_neg hk]
theorem formedV_none {n : Int} {s : ByteArray} {l : List S24} (h : usedV 3 n s l.length = true) (hl : formedL l 0 = none) : formedV ⟨3, n, s, l⟩ = (0, false) := by
  rw [formedV, h, if_pos rfl, if_pos rfl, hl]
theorem formedV_some {n d : Int} {s : ByteArray} {l : List S24} (h : usedV 3 n s l.length = true) (hl : formedL l 0 = some d) : formedV ⟨3, n, s, l⟩ = (wrap64 (d + 1), true) := by
  rw [formedV, h, if_pos rfl, if_pos rfl, hl]
theorem rd_mem (l : List S24) (i : Int) (h0 : 0 ≤ i) (h : i < l.length) : rd_T24 l i ∈ l := by
  have hn : i.toNat < l.length := by omega
  unfold rd_T24; rw [List.getD_eq_getElem?_getD, List.getElem?_eq_getElem hn]; exact List.getElem_mem hn
theorem drop_rd (l : List S24) (i : Int) (h0 : 0 ≤ i) (h : i < l.length) : l.drop i.toNat = rd_T24 l i :: l.drop (i + 1).toNat := by
  have hn : i.toNat < l.length := by omega
  rw [List.drop_eq_getElem_cons hn, show (i + 1).toNat = i.toNat + 1 by omega]; unfold rd_T24; rw [List.getD_eq_getElem?_getD, List.getElem?_eq_getElem hn]; rfl
theorem wrap_at (i : Int) (n : Nat) (h0 : 0 ≤ i) (h : i < n) (hn : n ≤ 9223372036854775807) : wrap64 (i + 1) = i + 1 := by unfold wrap64; omega

/-! numerals -/
/-- the bytes of a number, the lowest seven bits first -/
def numL (u : Nat) : List Int := if h : u < 128 then [(u : Int)] else ((u % 128 + 128 : Nat) : Int) :: numL (u / 128)
termination_by u
theorem numL_small {u : Nat} (h : u < 128) : numL u = [(u : Int)] := by rw [numL, dif_pos h]
theorem numL_big {u : Nat} (h : ¬ u < 128) : numL u = ((u % 128 + 128 : Nat) : Int) :: numL (u / 128) := by rw [numL, dif_neg h]
/-- the unsigned form of an integer, as the code has it -/
def unsG (n : Int) : Int := Go.bits .xor .u64 (IntKind.u64.wrap ((IntKind.u64.wrap (n)) * 2)) (IntKind.u64.wrap (n / 9223372036854775808))
theorem unsG_some (n : Int) : codec_unsigned.f n = some (unsG n) := rfl
theorem unsG_range (n : Int) : 0 ≤ unsG n ∧ unsG n < 18446744073709551616 := by
  have e : ∀ z : Int, 0 ≤ IntKind.u64.wrap z ∧ IntKind.u64.wrap z < 18446744073709551616 := fun z => by
    have : IntKind.u64.wrap z = z % 18446744073709551616 := by simp [IntKind.wrap, IntKind.bits, IntKind.signed]
    omega
  exact e _
/-- the unsigned form of an integer -/
def uns (n : Int) : Int := if 0 ≤ n then 2 * n else -2 * n - 1
set_option maxRecDepth 20000 in
theorem or128_nat : ∀ y : Fin 256, (y.val ||| 128) = y.val % 128 + 128 := by decide
theorem or128 (x : Int) (h0 : 0 ≤ x) (h1 : x < 256) : Go.bits .or .u8 x 128 = x % 128 + 128 := by
  obtain ⟨n, rfl⟩ := Int.eq_ofNat_of_zero_le h0
  have hb := (Go.bits_nat .u8 8 (by decide) wraps_u8 n 128 (by omega) (by decide)).2
  have e := or128_nat ⟨n, by omega⟩
  simp only at e
  rw [e] at hb
  exact hb.trans (by omega)
theorem u64w (n : Int) : IntKind.u64.wrap n = n % 18446744073709551616 := by simp [IntKind.wrap, IntKind.bits, IntKind.signed]
theorem xor_zero64 (x : Int) (h0 : 0 ≤ x) (h1 : x < 18446744073709551616) : Go.bits .xor .u64 x 0 = x := by
  obtain ⟨n, rfl⟩ := Int.eq_ofNat_of_zero_le h0
  have hn : n < 18446744073709551616 := by omega
  show IntKind.u64.wrap _ = _
  rw [u64w]
  have e : (BitVec.ofInt 64 (n : Int) ^^^ BitVec.ofInt 64 0).toNat = n := by
    rw [show BitVec.ofInt 64 0 = 0#64 from rfl, BitVec.xor_zero, BitVec.ofInt_natCast, BitVec.toNat_ofNat]
    exact Nat.mod_eq_of_lt hn
  show ((BitVec.ofInt 64 (n : Int) ^^^ BitVec.ofInt 64 0).toNat : Int) % _ = _
  rw [e]
  omega
theorem xor_ones64 (x : Int) (h0 : 0 ≤ x) (h1 : x < 18446744073709551616) : Go.bits .xor .u64 x 18446744073709551615 = 18446744073709551615 - x := by
  obtain ⟨n, rfl⟩ := Int.eq_ofNat_of_zero_le h0
  have hn : n < 18446744073709551616 := by omega
  show IntKind.u64.wrap _ = _
  rw [u64w]
  have e : (BitVec.ofInt 64 (n : Int) ^^^ BitVec.ofInt 64 18446744073709551615).toNat = 18446744073709551615 - n := by
    rw [show BitVec.ofInt 64 18446744073709551615 = BitVec.allOnes 64 from rfl, BitVec.xor_allOnes, BitVec.toNat_not, BitVec.ofInt_natCast, BitVec.toNat_ofNat, Nat.mod_eq_of_lt hn]
  show ((BitVec.ofInt 64 (n : Int) ^^^ BitVec.ofInt 64 18446744073709551615).toNat : Int) % _ = _
  rw [e]
  omega
theorem unsigned_eq (n : Int) (h0 : -9223372036854775808 ≤ n) (h1 : n ≤ 9223372036854775807) : codec_unsigned.f n = some (uns n) := by
  unfold codec_unsigned.f uns
  rw [u64w, u64w, u64w]
  by_cases h : 0 ≤ n
  · rw [if_pos h, show n / 9223372036854775808 % 18446744073709551616 = 0 by omega, xor_zero64 _ (by omega) (by omega)]
    congr 1
    omega
  · rw [if_neg h, show n / 9223372036854775808 % 18446744073709551616 = 18446744073709551615 by omega, xor_ones64 _ (by omega) (by omega)]
    congr 1
    omega
theorem numeral_ev (n : Nat) : ∀ (u : Nat) (l : List Int), u ≤ n → l.length + (numL u).length < 140737488355328 → ∃ k, codec_numeral.f k l (u : Int) = some (l ++ numL u) := by
  unfold codec_numeral.f
  induction n with
  | zero =>
    intro u l hu hl
    refine ⟨1, ?_⟩
    rw [numL_small (by omega)] at hl ⊢
    rw [codec_numeral.l0, if_neg (by omega), if_pos (by simp at hl; omega)]
    congr 3
    omega
  | succ n ih =>
    intro u l hu hl
    by_cases h : u < 128
    · refine ⟨1, ?_⟩
      rw [numL_small h] at hl ⊢
      rw [codec_numeral.l0, if_neg (by omega), if_pos (by simp at hl; omega)]
      congr 3
      omega
    · rw [numL_big h] at hl ⊢
      obtain ⟨k, hk⟩ := ih (u / 128) (l ++ [((u % 128 + 128 : Nat) : Int)]) (by omega) (by simp at hl ⊢; omega)
      refine ⟨k + 1, ?_⟩
      rw [codec_numeral.l0, if_pos (by omega), if_pos (by simp at hl; omega), or128 _ (by omega) (by omega)]
      have e1 : ((u : Int) % 256) % 128 + 128 = ((u % 128 + 128 : Nat) : Int) := by omega
      have e2 : (u : Int) / 128 = ((u / 128 : Nat) : Int) := by omega
      rw [e1, e2, hk]
      simp

mutual
/-- the encoding of a well-formed value -/
def encV : S24 → List Int
  | ⟨k, n, s, l⟩ => if k = 1 then 1 :: numL (unsG n).toNat else if k = 2 then 2 :: (numL s.size ++ bytesOf s) else 3 :: (numL l.length ++ encL l)
def encL : List S24 → List Int
  | [] => []
  | x :: r => encV x ++ encL r
end
theorem kind_of_formed {x : S24} (h : (formedV x).2 = true) : x.f0 = 1 ∨ x.f0 = 2 ∨ x.f0 = 3 := by
  obtain ⟨k, n, s, l⟩ := x
  by_cases h1 : k = 1
  · exact .inl h1
  by_cases h2 : k = 2
  · exact .inr (.inl h2)
  by_cases h3 : k = 3
  · exact .inr (.inr h3)
  have : formedV ⟨k, n, s, l⟩ = (0, false) := formedV_not (by unfold usedV; rw [if_neg h1, if_neg h2, if_neg h3])
  rw [this] at h
  cases h
theorem formedL_all : ∀ (l : List S24) (d r : Int), formedL l d = some r → ∀ x ∈ l, (formedV x).2 = true
  | [], _, _, _, x, hx => by cases hx
  | y :: l, d, r, h, x, hx => by
    rw [formedL] at h
    cases e : formedV y with
    | mk n ok =>
      rw [e] at h
      cases ok with
      | false => cases h
      | true =>
        rcases List.mem_cons.1 hx with rfl | hx
        · rw [e]
        · exact formedL_all l _ r h x hx
theorem formed_list {n : Int} {s : ByteArray} {l : List S24} (h : (formedV ⟨3, n, s, l⟩).2 = true) : ∀ x ∈ l, (formedV x).2 = true := by
  rw [formedV] at h
  split at h
  · rw [if_pos rfl] at h
    split at h
    · next d hd => exact formedL_all l 0 d hd
    · cases h
  · cases h
theorem encV_one (n : Int) (s : ByteArray) (l : List S24) : encV ⟨1, n, s, l⟩ = 1 :: numL (unsG n).toNat := by rw [encV, if_pos rfl]
theorem encV_two (n : Int) (s : ByteArray) (l : List S24) : encV ⟨2, n, s, l⟩ = 2 :: (numL s.size ++ bytesOf s) := by rw [encV, if_neg (by decide), if_pos rfl]
theorem encV_three (n : Int) (s : ByteArray) (l : List S24) : encV ⟨3, n, s, l⟩ = 3 :: (numL l.length ++ encL l) := by rw [encV, if_neg (by decide), if_neg (by decide)]
end Go.Proofs.Ytgnkjhppfenmaaa.Q
namespace Go.Proofs.Ytgnkjhppfenmaaa.Q
open Go.RowKit Go.Proofs.YtgnkjhppfenmaaaW.PrintWords Go.Proofs.YtgnkjhppfenmaaaW.PrintLast Go.Proofs.YtgnkjhppfenmaaaW.PrintMore
attribute [local go_sem] max2_int min2_int max_two min_two max_three min_three max_four min_four   -- for this text's walks alone
set_option linter.unusedVariables false
set_option linter.unusedSimpArgs false

/-! ### codec_signed: function 41 -/
def codec_signed.f (a0 : Int) : Option (Int) := some (Go.bits .xor .i64 (wrap64 (a0 / 2)) (wrap64 (-(wrap64 (Go.bits .and .u64 a0 1)))))
set_option maxHeartbeats 8000000 in
set_option maxRecDepth 100000 in
theorem codec_signed.calls (a0 : Int) (r : Int) (w : World) (h : codec_signed.f a0 = some r) :
    Calls Try.prog 41 #[.int .u64 a0] w fun e w' => e = .returned (.int .i64 r) ∧ Drawn0 w w' := by
  have H : (some (Go.bits .xor .i64 (wrap64 (a0 / 2)) (wrap64 (-(wrap64 (Go.bits .and .u64 a0 1)))))) = some r := h
  clear h
  obtain rfl := Option.some.inj H
  go_enter Try.func41, Try.ntmps41
  go_wp2
  go_ret
  exact ⟨by first | rfl | (simp; done) | (simp [*]; done), by repeat (first | exact Drawn0.refl _ | apply Drawn0.step)⟩

end Go.Proofs.Ytgnkjhppfenmaaa.Q
/- The plain functions of decoding (layer 1). -/
namespace Go.Proofs.Ytgnkjhppfenmaaa.Q
open Go.RowKit Go.Proofs.YtgnkjhppfenmaaaW.PrintWords Go.Proofs.YtgnkjhppfenmaaaW.PrintLast Go.Proofs.YtgnkjhppfenmaaaW.PrintMore
/-- may this byte stand at place i of a numeral? -/
def okAt (i : Nat) (c : Int) : Bool := (decide (i = 0) || decide (c ≠ 0)) && (decide (i < 9) || decide (c ≤ 1))
/-- a numeral, from place i on: the sum so far -/
def rdNumA : Nat → Int → List Int → Option (Int × List Int)
  | _, _, [] => none
  | i, u, c :: r => if okAt i c = true then (if c < 128 then some (u + c % 128 * 2 ^ (7 * i), r) else rdNumA (i + 1) (u + c % 128 * 2 ^ (7 * i)) r) else none
def rdNum (xs : List Int) : Option (Int × List Int) := rdNumA 0 0 xs
/-- a numeral that says how many bytes or elements follow -/
def rdLen (xs : List Int) : Option (Nat × List Int) := match rdNum xs with | some (u, r) => if u ≤ (r.length : Int) then some (u.toNat, r) else none | none => none
/-- so many values, one behind the other -/
def rdMany (f : List Int → Option (S24 × List Int)) : Nat → List Int → Option (List S24 × List Int)
  | 0, xs => some ([], xs)
  | m + 1, xs => match f xs with | some (v, r) => (match rdMany f m r with | some (l, r2) => some (v :: l, r2) | none => none) | none => none
/-- the signed form of a number -/
def sgnG (u : Int) : Int := Go.bits .xor .i64 (wrap64 (u / 2)) (wrap64 (-(wrap64 (Go.bits .and .u64 u 1))))
/-- a value within so many lists more -/
def rdVal : Nat → List Int → Option (S24 × List Int)
  | _, [] => none
  | n, k :: r =>
    if k = 1 then (match rdNum r with | some (u, r2) => some (⟨1, sgnG u, ⟨#[]⟩, []⟩, r2) | none => none)
    else if k = 2 then (match rdLen r with | some (m, r2) => some (⟨2, 0, strOfNums (r2.take m), []⟩, r2.drop m) | none => none)
    else if k = 3 then (match n with
      | 0 => none
      | n + 1 => match rdLen r with | some (m, r2) => (match rdMany (rdVal n) m r2 with | some (l, r3) => some (⟨3, 0, ⟨#[]⟩, l⟩, r3) | none => none) | none => none)
    else none
/-- the value with an encoding -/
def decV (xs : List Int) : Option S24 := match rdVal 16 xs with | some (v, []) => some v | _ => none
/-- are these bytes? -/
def areBytes (xs : List Int) : Bool := xs.all fun x => decide (0 ≤ x) && decide (x ≤ 255)
theorem byte_of {xs : List Int} (h : areBytes xs = true) {x : Int} (hx : x ∈ xs) : 0 ≤ x ∧ x ≤ 255 := by
  have := List.all_eq_true.1 h x hx
  simpa using this
theorem bytes_drop {xs : List Int} (h : areBytes xs = true) (n : Nat) : areBytes (xs.drop n) = true :=
  List.all_eq_true.2 fun x hx => List.all_eq_true.1 h x (List.mem_of_mem_drop hx)
theorem bytes_tail {c : Int} {xs : List Int} (h : areBytes (c :: xs) = true) : areBytes xs = true := bytes_drop h 1
theorem bytes_head {c : Int} {xs : List Int} (h : areBytes (c :: xs) = true) : 0 ≤ c ∧ c ≤ 255 := byte_of h List.mem_cons_self
theorem rdNumA_len : ∀ (xs : List Int) (i : Nat) (u : Int) (v : Int) (ys : List Int), rdNumA i u xs = some (v, ys) → ys.length < xs.length
  | [], _, _, _, _, h => by cases h
  | c :: xs, i, u, v, ys, h => by
    rw [rdNumA] at h
    split at h
    · split at h
      · cases h
        simp
      · have := rdNumA_len xs _ _ _ _ h
        simp; omega
    · cases h
theorem rdLen_len {xs : List Int} {m : Nat} {ys : List Int} (h : rdLen xs = some (m, ys)) : ys.length < xs.length ∧ m ≤ ys.length := by
  unfold rdLen at h
  split at h
  · next u r hr =>
    split at h
    · cases h
      exact ⟨rdNumA_len _ _ _ _ _ hr, by omega⟩
    · cases h
  · cases h
theorem rdMany_len {f : List Int → Option (S24 × List Int)} (hf : ∀ xs v r, f xs = some (v, r) → r.length ≤ xs.length) : ∀ (m : Nat) (xs : List Int) (l : List S24) (r : List Int), rdMany f m xs = some (l, r) → r.length ≤ xs.length
  | 0, xs, l, r, h => by cases h; exact Nat.le_refl _
  | m + 1, xs, l, r, h => by
    rw [rdMany] at h
    split at h
    · next v r1 h1 =>
      split at h
      · next l2 r2 h2 =>
        cases h
        have := hf _ _ _ h1
        have := rdMany_len hf m _ _ _ h2
        omega
      · cases h
    · cases h
theorem rdVal_len : ∀ (n : Nat) (xs : List Int) (v : S24) (r : List Int), rdVal n xs = some (v, r) → r.length ≤ xs.length := by
  intro n
  induction n with
  | zero =>
    intro xs v r h
    cases xs with
    | nil => cases h
    | cons k xs =>
      rw [rdVal] at h
      split at h
      · split at h
        · next u r2 h2 => cases h; have := rdNumA_len _ _ _ _ _ h2; simp; omega
        · cases h
      · split at h
        · split at h
          · next m r2 h2 => cases h; have := (rdLen_len h2).1; simp; omega
          · cases h
        · split at h <;> cases h
  | succ n ih =>
    intro xs v r h
    cases xs with
    | nil => cases h
    | cons k xs =>
      rw [rdVal] at h
      split at h
      · split at h
        · next u r2 h2 => cases h; have := rdNumA_len _ _ _ _ _ h2; simp; omega
        · cases h
      · split at h
        · split at h
          · next m r2 h2 => cases h; have := (rdLen_len h2).1; simp; omega
          · cases h
        · split at h
          · split at h
            · next m r2 h2 =>
              split at h
              · next l r3 h3 =>
                cases h
                have := (rdLen_len h2).1
                have := rdMany_len ih _ _ _ _ h3
                simp; omega
              · cases h
            · cases h
          · cases h
/-- the sum with one digit more, as the code has it -/
def accG (i : Nat) (u c : Int) : Int := Go.bits .or .u64 u (IntKind.u64.wrap (IntKind.u64.wrap (Go.bits .and .u8 c 127) * 2 ^ (7 * i)))
theorem wraps_u64 (n : Int) (h0 : 0 ≤ n) (h1 : n < 2 ^ 64) : IntKind.u64.wrap n = n := by rw [u64w]; omega
theorem and127 (c : Int) (h0 : 0 ≤ c) (h1 : c ≤ 255) : Go.bits .and .u8 c 127 = c % 128 := Go.bits_mask .u8 8 (by decide) wraps_u8 7 (by decide) c h0 (by omega)
theorem pow_le_64 (i : Nat) (h : i ≤ 9) : (2 : Nat) ^ (7 * i) ≤ 2 ^ 63 := Nat.pow_le_pow_right (by decide) (by omega)
theorem digit_bound (i : Nat) (c : Int) (hi : i ≤ 9) (h0 : 0 ≤ c) (h1 : c ≤ 255) (h9 : i < 9 ∨ c ≤ 1) : (c % 128).toNat * 2 ^ (7 * i) + 2 ^ (7 * i) ≤ 2 ^ 64 := by
  rcases h9 with h9 | h9
  · have hp : (2 : Nat) ^ (7 * i) ≤ 2 ^ 56 := Nat.pow_le_pow_right (by decide) (by omega)
    have hc : (c % 128).toNat ≤ 127 := by omega
    calc (c % 128).toNat * 2 ^ (7 * i) + 2 ^ (7 * i) ≤ 127 * 2 ^ 56 + 2 ^ 56 := Nat.add_le_add (Nat.mul_le_mul hc hp) hp
      _ ≤ 2 ^ 64 := by decide
  · have hp := pow_le_64 i hi
    have hc : (c % 128).toNat ≤ 1 := by omega
    calc (c % 128).toNat * 2 ^ (7 * i) + 2 ^ (7 * i) ≤ 1 * 2 ^ 63 + 2 ^ 63 := Nat.add_le_add (Nat.mul_le_mul hc hp) hp
      _ ≤ 2 ^ 64 := by decide
theorem acc_eq (i : Nat) (u c : Int) (hi : i ≤ 9) (hu0 : 0 ≤ u) (hu : u < 2 ^ (7 * i)) (h0 : 0 ≤ c) (h1 : c ≤ 255) (h9 : i < 9 ∨ c ≤ 1) : accG i u c = u + c % 128 * 2 ^ (7 * i) := by
  have hb := digit_bound i c hi h0 h1 h9
  obtain ⟨a, rfl⟩ := Int.eq_ofNat_of_zero_le hu0
  obtain ⟨d, hd⟩ := Int.eq_ofNat_of_zero_le (show 0 ≤ c % 128 by omega)
  have ha : a < 2 ^ (7 * i) := by exact_mod_cast hu
  have hpos : 0 < 2 ^ (7 * i) := Nat.two_pow_pos _
  unfold accG
  rw [and127 c h0 h1, hd]
  rw [hd, show ((d : Nat) : Int).toNat = d from rfl] at hb
  have hd2 : d * 2 ^ (7 * i) < 2 ^ 64 := by omega
  have e1 : IntKind.u64.wrap (d : Int) = (d : Int) := wraps_u64 _ (by omega) (by omega)
  have e2 : ((d : Int) * 2 ^ (7 * i)) = ((d * 2 ^ (7 * i) : Nat) : Int) := by simp
  have e3 : IntKind.u64.wrap ((d * 2 ^ (7 * i) : Nat) : Int) = ((d * 2 ^ (7 * i) : Nat) : Int) := wraps_u64 _ (by omega) (by exact_mod_cast hd2)
  rw [e1, e2, e3, (Go.bits_nat .u64 64 (by decide) wraps_u64 a (d * 2 ^ (7 * i)) (by omega) hd2).2]
  rw [Nat.or_comm, Nat.mul_comm d, ← Nat.two_pow_add_eq_or_of_lt ha d]
  push_cast
  omega
theorem acc_bound (i : Nat) (u c : Int) (hu0 : 0 ≤ u) (hu : u < 2 ^ (7 * i)) : 0 ≤ u + c % 128 * 2 ^ (7 * i) ∧ u + c % 128 * 2 ^ (7 * i) < 2 ^ (7 * (i + 1)) := by
  have hp : (0 : Int) < 2 ^ (7 * i) := by exact_mod_cast Nat.two_pow_pos (7 * i)
  have h1 : 0 ≤ c % 128 * 2 ^ (7 * i) := Int.mul_nonneg (by omega) (by omega)
  have h2 : c % 128 * 2 ^ (7 * i) ≤ 127 * 2 ^ (7 * i) := Int.mul_le_mul_of_nonneg_right (by omega) (by omega)
  have h3 : (2 : Int) ^ (7 * (i + 1)) = 128 * 2 ^ (7 * i) := by
    rw [show 7 * (i + 1) = 7 * i + 7 by omega, Int.pow_add]
    omega
  rw [h3]
  omega
end Go.Proofs.Ytgnkjhppfenmaaa.Q
