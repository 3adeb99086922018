/- The proof's texts, part 1 of 7. -/
import Derived.ArgAppend
import Derived.Below
import Derived.BigQuiet
import Derived.Deep.AppendLies
import Derived.Deep.CutBlock
import Derived.Deep.DeepCutAuto
import Derived.Deep.Draws
import Derived.Deep.LoopGhost
import Derived.Deep.OwnRows
import Derived.Deep.QuietTactic
import Derived.Deep.RegionHeld3
import Derived.KernelRfl
import Derived.Laws.BitsLemmas
import Derived.Laws.BytesArg
import Derived.Laws.IdiomCopy
import Derived.Laws.MakeOwn
import Derived.Laws.OwnMore
import Derived.Laws.Rows
import Derived.Laws.Slices
import Derived.Lib.AppendStr
import Derived.Lib.ConvBytes
import Derived.Maps.AppendAt
import Derived.OrdersHeld
import Derived.OwnWalk
import Derived.RowKit
import Derived.RowKit3
import Derived.Tactics
import Derived.Test.YtlnmjgkeiljniaaProg
import Derived.Test.YtlnmjgkeiljniaaWApart
import Derived.Test.YtlnmjgkeiljniaaWArr
import Derived.Test.YtlnmjgkeiljniaaWAt
import Derived.Test.YtlnmjgkeiljniaaWEqStruct
import Derived.Test.YtlnmjgkeiljniaaWFoot
import Derived.Test.YtlnmjgkeiljniaaWFootNe
import Derived.Test.YtlnmjgkeiljniaaWFour
import Derived.Test.YtlnmjgkeiljniaaWGuard
import Derived.Test.YtlnmjgkeiljniaaWInv
import Derived.Test.YtlnmjgkeiljniaaWInvWords
import Derived.Test.YtlnmjgkeiljniaaWKept
import Derived.Test.YtlnmjgkeiljniaaWLast
import Derived.Test.YtlnmjgkeiljniaaWMore
import Derived.Test.YtlnmjgkeiljniaaWN
import Derived.Test.YtlnmjgkeiljniaaWNEv
import Derived.Test.YtlnmjgkeiljniaaWQPut
import Derived.Test.YtlnmjgkeiljniaaWRepsOne
import Derived.Test.YtlnmjgkeiljniaaWShare
import Derived.Test.YtlnmjgkeiljniaaWTab
import Derived.Test.YtlnmjgkeiljniaaWWords
import Derived.Test.YtlnmjgkeiljniaaWZeros
import Derived.WalkKit
import Derived.WideLaws
set_option linter.unusedVariables false
set_option linter.unusedSimpArgs false
namespace Go.Proofs.Ytlnmjgkeiljniaa.Q
open Go.RowKit Go.Proofs.YtlnmjgkeiljniaaW.PrintWords Go.Proofs.YtlnmjgkeiljniaaW.PrintLast Go.Proofs.YtlnmjgkeiljniaaW.PrintMore
attribute [local go_sem] max2_int min2_int max_two min_two max_three min_three max_four min_four   -- for this text's walks alone
set_option linter.unusedVariables false
set_option linter.unusedSimpArgs false

def errW : Option Int → Value
  | none => .nilIface
  | some c => .iface 0 (.int .i64 c)
theorem errW_none : errW none = .nilIface := rfl
theorem errW_some (c : Int) : errW (some c) = .iface 0 (.int .i64 c) := rfl

theorem info5 : (Try.prog.info? 5).map (fun i => (i.zero, i.size, i.bytes)) = some (some (.int .u8 0), 1, 1) := by kernel_rfl
theorem info35 : (Try.prog.info? 35).map (fun i => (i.zero, i.size, i.bytes)) = some (some (.slice none 0 0), 1, 24) := by kernel_rfl
theorem info76 : (Try.prog.info? 76).map (fun i => (i.zero, i.size, i.bytes)) = some (some (.agg #[(.int .i64 0), (.slice none 0 0)]), 2, 32) := by kernel_rfl
-- the values' own types
def rd_L1 (xs : List (List Int)) (i : Int) : (List Int) := xs.getD i.toNat ([] : List Int)
theorem at_L1 {w : World} {A : Option Addr} {n : Nat} {xs : List (List Int)} (h : Kd.C (Kd.slice 5 (Kd.int .u8)) w A n xs) (i : Int) (h0 : 0 ≤ i) (h1 : i < n) : ∃ ad A0 c0, A = some ad ∧ w.cell? (ad.add i.toNat) = some (.slice A0 (rd_L1 xs i).length c0) ∧ (rd_L1 xs i).length ≤ c0 ∧ (Kd.int .u8).C w A0 (rd_L1 xs i).length (rd_L1 xs i) := by
  obtain ⟨ad, c, e, _, hK, hc0⟩ := Kd.C_get h ([] : List Int) i h0 h1
  have hc : ∀ j u, c[j]? = some u → w.cell? (ad.add (i.toNat * 1 + j)) = some u := hc0
  obtain ⟨A0, c0, rfl, l0, g0⟩ := hK
  exact ⟨ad, A0, c0, e, by have hq := hc 0 _ rfl; rwa [Nat.mul_one, Nat.add_zero] at hq, l0, g0⟩

/-! #### struct type 76 -/
structure S76 where
  f0 : Int
  f1 : (List Int)
def z76 : S76 := ⟨(0 : Int), ([] : List Int)⟩
def k76 : Kd S76 := Kd.iso (Kd.pair (Kd.int .i64) (Kd.slice 5 (Kd.int .u8))) (fun x : S76 => (x.f0, x.f1))
theorem k76_heap : Kd.Heap k76 := Kd.heap_iso _ (Kd.heap_pair (Kd.heap_int .i64) (Kd.heap_slice 5 (Kd.heap_int .u8)))
theorem k76_open {w : World} {x : S76} {cs : List Value} (h : k76.K w x cs) : ∃ A1 c1, cs = [.int .i64 x.f0, .slice A1 x.f1.length c1] ∧ x.f1.length ≤ c1 ∧ (Kd.int .u8).C w A1 x.f1.length x.f1 := by
  obtain ⟨_, _, rfl, rfl, ⟨A1, c1, rfl, l1, g1⟩⟩ := h
  exact ⟨A1, c1, rfl, l1, g1⟩
theorem k76_mk (w : World) (x : S76) {A1 : Option Addr} {c1 : Nat} (l1 : x.f1.length ≤ c1) (g1 : (Kd.int .u8).C w A1 x.f1.length x.f1) : k76.K w x [.int .i64 x.f0, .slice A1 x.f1.length c1] := ⟨[.int .i64 x.f0], [.slice A1 x.f1.length c1], rfl, rfl, ⟨A1, c1, rfl, l1, g1⟩⟩
theorem k76_openF {W : World} {ok : Nat → Prop} {x : S76} {cs : List Value} (h : Kd.FK k76 W ok x cs) : ∃ A1 c1, cs = [.int .i64 x.f0, .slice A1 x.f1.length c1] ∧ x.f1.length ≤ c1 ∧ Kd.F (Kd.int .u8) W ok A1 x.f1.length x.f1 := by
  obtain ⟨A1, c1, rfl, l1, _⟩ := k76_open (Kd.FK_now h)
  exact ⟨A1, c1, rfl, l1, (fun W' hW => by obtain ⟨A1_, c1_, he, l1_, g1_⟩ := k76_open (h W' hW); injection (Option.some.inj (show some (Value.slice A1 x.f1.length c1) = some (Value.slice A1_ x.f1.length c1_) from congrArg (fun l => l[1]?) he)) with ha_ _ _; rw [ha_]; exact g1_)⟩
theorem k76_mkF (W : World) (ok : Nat → Prop) (x : S76) {A1 : Option Addr} {c1 : Nat} (l1 : x.f1.length ≤ c1) (g1 : Kd.F (Kd.int .u8) W ok A1 x.f1.length x.f1) : Kd.FK k76 W ok x [.int .i64 x.f0, .slice A1 x.f1.length c1] := fun W2 hW => k76_mk W2 x l1 (g1 W2 hW)
def rd_T76 (xs : List S76) (i : Int) : S76 := xs.getD i.toNat z76
theorem at_T76 {w : World} {A : Option Addr} {n : Nat} {xs : List S76} (h : Kd.C k76 w A n xs) (i : Int) (h0 : 0 ≤ i) (h1 : i < n) : ∃ ad A1 c1, A = some ad ∧ w.cell? (ad.add (i.toNat * 2)) = some (.int .i64 (rd_T76 xs i).f0) ∧ w.cell? ⟨(ad.add (i.toNat * 2)).block, (ad.add (i.toNat * 2)).off + 1, none⟩ = some (.slice A1 (rd_T76 xs i).f1.length c1) ∧ (rd_T76 xs i).f1.length ≤ c1 ∧ (Kd.int .u8).C w A1 (rd_T76 xs i).f1.length (rd_T76 xs i).f1 := by
  obtain ⟨ad, c, e, _, hK, hc0⟩ := Kd.C_get h z76 i h0 h1
  have hc : ∀ j u, c[j]? = some u → w.cell? (ad.add (i.toNat * 2 + j)) = some u := hc0
  obtain ⟨A1, c1, rfl, l1, g1⟩ := k76_open hK
  exact ⟨ad, A1, c1, e, hc 0 _ rfl, by rw [← add_field _ _ 1 (by omega)]; exact hc 1 _ rfl, l1, g1⟩

/-! #### struct type 57 -/
structure S57 where
  f0 : Bool
  f1 : Int
  f2 : Int
def z57 : S57 := ⟨false, (0 : Int), (0 : Int)⟩
def k57 : Kd S57 := Kd.iso (Kd.pair Kd.bool (Kd.pair (Kd.int .u8) (Kd.int .u8))) (fun x : S57 => (x.f0, x.f1, x.f2))
theorem k57_open {w : World} {x : S57} {cs : List Value} (h : k57.K w x cs) : cs = [.bool x.f0, .int .u8 x.f1, .int .u8 x.f2] := by
  obtain ⟨_, _, rfl, rfl, ⟨_, _, rfl, rfl, rfl⟩⟩ := h
  exact rfl
theorem k57_mk (w : World) (x : S57)  : k57.K w x [.bool x.f0, .int .u8 x.f1, .int .u8 x.f2] := ⟨[.bool x.f0], [.int .u8 x.f1, .int .u8 x.f2], rfl, rfl, ⟨[.int .u8 x.f1], [.int .u8 x.f2], rfl, rfl, rfl⟩⟩
theorem k57_mkF (W : World) (ok : Nat → Prop) (x : S57) : Kd.FK k57 W ok x [.bool x.f0, .int .u8 x.f1, .int .u8 x.f2] := fun W2 _ => k57_mk W2 x
def rd_T57 (xs : List S57) (i : Int) : S57 := xs.getD i.toNat z57
theorem at_T57 {w : World} {A : Option Addr} {n : Nat} {xs : List S57} (h : Kd.C k57 w A n xs) (i : Int) (h0 : 0 ≤ i) (h1 : i < n) : ∃ ad , A = some ad ∧ w.cell? (ad.add (i.toNat * 3)) = some (.bool (rd_T57 xs i).f0) ∧ w.cell? ⟨(ad.add (i.toNat * 3)).block, (ad.add (i.toNat * 3)).off + 1, none⟩ = some (.int .u8 (rd_T57 xs i).f1) ∧ w.cell? ⟨(ad.add (i.toNat * 3)).block, (ad.add (i.toNat * 3)).off + 2, none⟩ = some (.int .u8 (rd_T57 xs i).f2) := by
  obtain ⟨ad, c, e, _, hK, hc0⟩ := Kd.C_get h z57 i h0 h1
  have hc : ∀ j u, c[j]? = some u → w.cell? (ad.add (i.toNat * 3 + j)) = some u := hc0
  obtain rfl := k57_open hK
  exact ⟨ad, e, hc 0 _ rfl, by rw [← add_field _ _ 1 (by omega)]; exact hc 1 _ rfl, by rw [← add_field _ _ 2 (by omega)]; exact hc 2 _ rfl⟩

end Go.Proofs.Ytlnmjgkeiljniaa.Q
/- What the disk of layer 45 does, without the program. -/
namespace Go.Proofs.Ytlnmjgkeiljniaa.Q
open Go.RowKit Go.Proofs.YtlnmjgkeiljniaaW.PrintWords Go.Proofs.YtlnmjgkeiljniaaW.PrintLast Go.Proofs.YtlnmjgkeiljniaaW.PrintMore
/-- a disk -/
structure Dk where
  s : List (List Int)
  p : List S76
  left : Int
  st : Bool
def zeroD : Dk := ⟨[], [], 0, false⟩
/-- has a slice the length of a sector? -/
def secB (n : Nat) : Bool := ((n : Int) == 128)
/-- is a write bad on a disk of so many sectors? -/
def badW (n : Nat) (x : S76) : Bool := decide (x.f0 < 0) || (decide ((n : Int) ≤ x.f0) || !secB x.f1.length)
def numsD (d : Dk) : Bool := decide ((d.s.length : Int) < 1) || (decide ((4096 : Int) < d.s.length) || (decide ((4096 : Int) < d.p.length) || (decide (d.left < -1) || decide ((65536 : Int) < d.left))))
/-- is a disk valid? -/
def okD (d : Dk) : Bool := !numsD d && (!d.p.any (badW d.s.length) && !d.s.any (fun b => !secB b.length))
def checkD (d : Dk) : Int := if okD d = true then 0 else 450
def runsD (d : Dk) : Bool := okD d && !d.st
def hasD (d : Dk) (at_ : Int) : Bool := decide (0 ≤ at_) && decide (at_ < d.s.length)
def zeros (n : Nat) : List Int := List.replicate n 0
def newD (n : Int) : Dk × Int := if n < 1 ∨ 4096 < n then (zeroD, 1) else (⟨List.replicate n.toNat (zeros 128), [], -1, false⟩, 0)
/-- the sectors after some writes -/
def performD (s : List (List Int)) (p : List S76) : List (List Int) := p.foldl (fun s x => s.set x.f0.toNat x.f1) s
/-- what was written last to a sector -/
def lastD : List S76 → Int → List Int → List Int
  | [], _, b => b
  | x :: p, a, b => lastD p a (if x.f0 = a then x.f1 else b)
def readD (d : Dk) (a : Int) : List Int × Int := if runsD d = true ∧ hasD d a = true then (lastD d.p a (d.s.getD a.toNat []), 0) else ([], 450)
def pad (b : List Int) : List Int := b ++ zeros (128 - b.length)
def writeD (d : Dk) (a : Int) (b : List Int) : Dk × Int :=
  if ¬ (runsD d = true ∧ hasD d a = true) then (zeroD, 450)
  else if 128 < b.length then (zeroD, 1)
  else if d.p.length = 4096 then (zeroD, 2)
  else (⟨d.s, d.p ++ [⟨a, pad b⟩], d.left, d.st⟩, 0)
/-- a sector of which the first half was written -/
def tear (old new : List Int) : List Int := new.take 64 ++ old.drop 64
def syncD (d : Dk) : Dk × Int :=
  if runsD d = true then
    (if 0 ≤ d.left ∧ d.left < d.p.length then
      (let s := performD d.s (d.p.take d.left.toNat); let x := d.p.getD d.left.toNat z76
       (⟨s.set x.f0.toNat (tear (s.getD x.f0.toNat []) x.f1), [], 0, true⟩, 450))
    else (⟨performD d.s d.p, [], if 0 ≤ d.left then d.left - d.p.length else d.left, false⟩, 0))
  else (zeroD, 450)
def stopD (d : Dk) (n : Int) : Dk × Int := if runsD d = true then (if n < 0 ∨ 65536 < n then (zeroD, 1) else (⟨d.s, d.p, n, d.st⟩, 0)) else (zeroD, 450)
def restartD (d : Dk) : Dk := ⟨d.s, [], -1, false⟩
/-- the disk in memory -/
def DiskV (W : World) (v : Value) (d : Dk) : Prop := ∃ A0 c0 A1 c1, v = .agg #[.slice A0 d.s.length c0, .slice A1 d.p.length c1, .int .i64 d.left, .bool d.st] ∧ d.s.length ≤ c0 ∧ d.p.length ≤ c1 ∧ (Kd.slice 5 (Kd.int .u8)).C W A0 d.s.length d.s ∧ k76.C W A1 d.p.length d.p
theorem DiskV.below {W W1 : World} {v : Value} {d : Dk} (h : DiskV W v d) (hb : Below W.heap.size W W1) : DiskV W1 v d := by
  obtain ⟨A0, c0, A1, c1, e, h1, h2, h3, h4⟩ := h
  exact ⟨A0, c0, A1, c1, e, h1, h2, Kd.C_below h3 hb, Kd.C_below h4 hb⟩
/-- bytes in memory -/
def BytesV (W : World) (v : Value) (b : List Int) : Prop := ∃ A c, v = .slice A b.length c ∧ b.length ≤ c ∧ (Kd.int .u8).C W A b.length b
theorem BytesV.below {W W1 : World} {v : Value} {b : List Int} (h : BytesV W v b) (hb : Below W.heap.size W W1) : BytesV W1 v b := by
  obtain ⟨A, c, e, h1, h2⟩ := h
  exact ⟨A, c, e, h1, Kd.C_below h2 hb⟩
/-- an index that says whether something was found -/
def IdxSays (b : Bool) (w : World) (e : Ending) (w' : World) : Prop := ∃ r : Int, decide (0 ≤ r) = b ∧ e = .returned (.int .i64 r) ∧ Below w.heap.size w w'
end Go.Proofs.Ytlnmjgkeiljniaa.Q
/- disk.Check: contracts. -/
namespace Go.Proofs.Ytlnmjgkeiljniaa.Q
open Go.RowKit Go.Proofs.YtlnmjgkeiljniaaW.PrintWords Go.Proofs.YtlnmjgkeiljniaaW.PrintLast Go.Proofs.YtlnmjgkeiljniaaW.PrintMore
set_option linter.unusedVariables false
set_option maxHeartbeats 2000000 in
theorem isSector_says (A : Option Addr) (n c : Nat) (w : World) : Calls Try.prog 53 #[.slice A n c] w fun e w' => e = .returned (.bool (secB n)) ∧ w = w' := by
  unfold secB
  go_enter Try.func53, Try.ntmps53
  go_wp2
  go_ret
  exact ⟨rfl, rfl⟩
set_option maxHeartbeats 2000000 in
theorem notSector_says (A : Option Addr) (n c : Nat) (w : World) : Calls Try.prog 56 #[.slice A n c] w fun e w' => e = .returned (.bool (!secB n)) ∧ w = w' := by
  go_enter Try.func56, Try.ntmps56
  go_wp2_with (go_at_call 53; refine (isSector_says A n c _).mono ?_; rintro e w' ⟨rfl, rfl⟩)
  go_ret
  exact ⟨rfl, rfl⟩
set_option maxHeartbeats 8000000 in
set_option maxRecDepth 100000 in
theorem idx_sec (A : Option Addr) (c : Nat) (l : List (List Int)) (w : World) (hA : (Kd.slice 5 (Kd.int .u8)).C w A l.length l) :
    Calls Try.prog 79 #[.slice A l.length c, .func (Fn.func 56) #[] #[]] w (IdxSays (l.any (fun b => !secB b.length)) w) := by
  have HA := Aside0.mk hA
  clear hA
  go_enter Try.func79, Try.ntmps79
  go_wp2
  go_loopg [8] l.length (fun kq v8 w' => ∃ i : Nat, v8 = .int .i64 i ∧ Aside0 (kq + i = l.length) ∧ Aside0 (l.any (fun b => !secB b.length) = (l.drop i).any (fun b => !secB b.length)) ∧ Aside0 (Below w.heap.size w w'))
  case atStart => exact ⟨0, rfl, ⟨by omega⟩, ⟨by simp⟩, ⟨Below.refl _ _⟩⟩
  obtain ⟨i, rfl, HI, HS, HW⟩ := hrel
  by_cases hi : i < l.length
  · have hi0 : decide (i < l.length) = true := decide_eq_true hi
    have hw := Aside0.mk (show wrap64 ((i : Int) + 1) = ((i + 1 : Nat) : Int) by have := HA.out.2.1; unfold wrap64; omega)
    have HLT := Aside0.mk hi
    have hrd : rd_L1 l (i : Int) = l[i] := by unfold rd_L1; simp [List.getD_eq_getElem?_getD, List.getElem?_eq_getElem hi]
    obtain ⟨ad, A1, c1, rfl, hx0, hc1, hC1⟩ := at_L1 HA.out (i : Int) (by omega) (by omega)
    replace hx0 := (HW.out.cell (World.block_lt_of_cell? w _ hx0)).trans hx0
    rw [show ((i : Int)).toNat = i by omega] at hx0
    clear hC1 hc1
    have HSS := Aside0.mk (show (l.drop i).any (fun b => !secB b.length) = ((fun b => !secB b.length) (rd_L1 l (i : Int)) || (l.drop (i + 1)).any (fun b => !secB b.length)) by rw [hrd, List.drop_eq_getElem_cons hi, List.any_cons])
    clear hrd
    generalize rd_L1 l (i : Int) = x at *
    cases hs : (fun b => !secB b.length) x with
    | false =>
      have HPX := Aside0.mk hs
      clear hs
      go_wp2_with (go_at_call 56; (refine (notSector_says A1 _ c1 _).mono ?_); rintro e w1 ⟨he, rfl⟩; rw [HPX.out] at he; obtain rfl := he; have HW1 := HW)
      go_roundg (gk - 1)
      case measure => have := HI.out; have := HLT.out; omega
      case rel => exact ⟨i + 1, by rw [hw.out], ⟨by have := HI.out; have := HLT.out; omega⟩, ⟨by rw [HS.out, HSS.out, HPX.out, Bool.false_or]⟩, HW1⟩
    | true =>
      have HPX := Aside0.mk hs
      clear hs
      go_wp2_with (go_at_call 56; (refine (notSector_says A1 _ c1 _).mono ?_); rintro e w1 ⟨he, rfl⟩; rw [HPX.out] at he; obtain rfl := he; have HW1 := HW)
      go_ret
      exact ⟨(i : Int), by rw [HS.out, HSS.out, HPX.out, Bool.true_or]; simp, rfl, HW1.out⟩
  · have hi0 : decide (i < l.length) = false := decide_eq_false hi
    go_wp2
    go_ret
    exact ⟨-1, by rw [HS.out, List.drop_eq_nil_of_le (by omega)]; rfl, rfl, HW.out⟩
set_option maxHeartbeats 2000000 in
theorem any_sec (A : Option Addr) (c : Nat) (l : List (List Int)) (w : World) (hA : (Kd.slice 5 (Kd.int .u8)).C w A l.length l) :
    Calls Try.prog 55 #[.slice A l.length c, .func (Fn.func 56) #[] #[]] w fun e w' => e = .returned (.bool (l.any (fun b => !secB b.length))) ∧ Below w.heap.size w w' := by
  have C := Aside0.mk (idx_sec A c l w hA)
  clear hA
  go_enter Try.func55, Try.ntmps55
  go_wp2_with (go_at_call 79; refine C.out.mono ?_; rintro e w' ⟨r, hr, rfl, hb⟩; have HR := Aside0.mk hr; have HB := Aside0.mk hb; clear hr hb)
  go_ret
  exact ⟨by rw [← HR.out]; rfl, HB.out⟩
set_option maxHeartbeats 2000000 in
theorem badW_says (x0 : Int) (A1 : Option Addr) (m c1 : Nat) (b ns : Nat) (w : World) (hb : w.cell? ⟨b, 0, none⟩ = some (.int .i64 (ns : Int))) :
    Calls Try.prog 52 #[.agg #[.int .i64 x0, .slice A1 m c1], .pointer (some ⟨b, 0, none⟩)] w fun e w' => e = .returned (.bool (decide (x0 < 0) || (decide ((ns : Int) ≤ x0) || !secB m))) ∧ Below w.heap.size w w' := by
  have hbl := World.block_lt_of_cell? w _ hb
  have hb1 := (World.cell?_alloc_lt w (.cells #[.int .i64 x0, .slice A1 m c1] 76) _ hbl).trans hb
  have HB := Aside0.mk (below_alloc (Below.refl w.heap.size w) (.cells #[.int .i64 x0, .slice A1 m c1] 76))
  clear hb hbl
  cases h0 : decide (x0 < 0) with
  | true =>
    go_enter Try.func52, Try.ntmps52
    go_wp2
    go_ret
    exact ⟨rfl, HB.out⟩
  | false =>
    cases h1 : decide ((ns : Int) ≤ x0) with
    | true =>
      go_enter Try.func52, Try.ntmps52
      go_wp2
      go_ret
      exact ⟨rfl, HB.out⟩
    | false =>
      go_enter Try.func52, Try.ntmps52
      go_wp2_with (go_at_call 53; refine (isSector_says _ _ _ _).mono ?_; rintro e w' ⟨rfl, rfl⟩)
      go_ret
      exact ⟨rfl, HB.out⟩
set_option maxHeartbeats 8000000 in
set_option maxRecDepth 100000 in
theorem idx_wr (b ns : Nat) (A : Option Addr) (c : Nat) (l : List S76) (w : World) (hA : k76.C w A l.length l) (hz : w.cell? ⟨b, 0, none⟩ = some (.int .i64 (ns : Int))) :
    Calls Try.prog 78 #[.slice A l.length c, .func (Fn.func 52) #[] #[.pointer (some ⟨b, 0, none⟩)]] w (IdxSays (l.any (badW ns)) w) := by
  have HA := Aside0.mk hA
  have HZ := Aside0.mk hz
  clear hA hz
  go_enter Try.func78, Try.ntmps78
  go_wp2
  go_loopg [8] l.length (fun kq v8 w' => ∃ i : Nat, v8 = .int .i64 i ∧ Aside0 (kq + i = l.length) ∧ Aside0 (l.any (badW ns) = (l.drop i).any (badW ns)) ∧ Aside0 (Below w.heap.size w w'))
  case atStart => exact ⟨0, rfl, ⟨by omega⟩, ⟨by simp⟩, ⟨Below.refl _ _⟩⟩
  obtain ⟨i, rfl, HI, HS, HW⟩ := hrel
  by_cases hi : i < l.length
  · have hi0 : decide (i < l.length) = true := decide_eq_true hi
    have hw := Aside0.mk (show wrap64 ((i : Int) + 1) = ((i + 1 : Nat) : Int) by have := HA.out.2.1; unfold wrap64; omega)
    have HLT := Aside0.mk hi
    have hrd : rd_T76 l (i : Int) = l[i] := by unfold rd_T76; simp [List.getD_eq_getElem?_getD, List.getElem?_eq_getElem hi]
    obtain ⟨ad, A1, c1, rfl, hx0, hx1, hc1, hC1⟩ := at_T76 HA.out (i : Int) (by omega) (by omega)
    replace hx0 := (HW.out.cell (World.block_lt_of_cell? w _ hx0)).trans hx0
    replace hx1 := (HW.out.cell (World.block_lt_of_cell? w _ hx1)).trans hx1
    have hz := (HW.out.cell (World.block_lt_of_cell? w _ HZ.out)).trans HZ.out
    rw [show ((i : Int)).toNat = i by omega] at hx0 hx1
    clear hC1 hc1
    have HSS := Aside0.mk (show (l.drop i).any (badW ns) = ((badW ns) (rd_T76 l (i : Int)) || (l.drop (i + 1)).any (badW ns)) by rw [hrd, List.drop_eq_getElem_cons hi, List.any_cons])
    clear hrd
    generalize rd_T76 l (i : Int) = x at *
    cases hs : (badW ns) x with
    | false =>
      have HPX := Aside0.mk hs
      clear hs
      go_wp2_with (go_at_call 52; (refine (badW_says _ _ _ _ _ _ _ hz).mono ?_); rintro e w1 ⟨he, hb⟩; have he2 := he.trans (congrArg (fun z => Ending.returned (Value.bool z)) HPX.out); obtain rfl := he2; have HW1 := Aside0.mk (below_step HW.out hb); clear hb he)
      go_roundg (gk - 1)
      case measure => have := HI.out; have := HLT.out; omega
      case rel => exact ⟨i + 1, by rw [hw.out], ⟨by have := HI.out; have := HLT.out; omega⟩, ⟨by rw [HS.out, HSS.out, HPX.out, Bool.false_or]⟩, HW1⟩
    | true =>
      have HPX := Aside0.mk hs
      clear hs
      go_wp2_with (go_at_call 52; (refine (badW_says _ _ _ _ _ _ _ hz).mono ?_); rintro e w1 ⟨he, hb⟩; have he2 := he.trans (congrArg (fun z => Ending.returned (Value.bool z)) HPX.out); obtain rfl := he2; have HW1 := Aside0.mk (below_step HW.out hb); clear hb he)
      go_ret
      exact ⟨(i : Int), by rw [HS.out, HSS.out, HPX.out, Bool.true_or]; simp, rfl, HW1.out⟩
  · have hi0 : decide (i < l.length) = false := decide_eq_false hi
    go_wp2
    go_ret
    exact ⟨-1, by rw [HS.out, List.drop_eq_nil_of_le (by omega)]; rfl, rfl, HW.out⟩
set_option maxHeartbeats 2000000 in
theorem any_wr (b ns : Nat) (A : Option Addr) (c : Nat) (l : List S76) (w : World) (hA : k76.C w A l.length l) (hz : w.cell? ⟨b, 0, none⟩ = some (.int .i64 (ns : Int))) :
    Calls Try.prog 54 #[.slice A l.length c, .func (Fn.func 52) #[] #[.pointer (some ⟨b, 0, none⟩)]] w fun e w' => e = .returned (.bool (l.any (badW ns))) ∧ Below w.heap.size w w' := by
  have C := Aside0.mk (idx_wr b ns A c l w hA hz)
  clear hA hz
  go_enter Try.func54, Try.ntmps54
  go_wp2_with (go_at_call 78; refine C.out.mono ?_; rintro e w' ⟨r, hr, rfl, hb⟩; have HR := Aside0.mk hr; have HB := Aside0.mk hb; clear hr hb)
  go_ret
  exact ⟨by rw [← HR.out]; rfl, HB.out⟩
/-- disk.Check -/
theorem okD_cases (d : Dk) : (decide ((d.s.length : Int) < 1) = true) ∨ (decide ((d.s.length : Int) < 1) = false ∧ decide ((4096 : Int) < d.s.length) = true) ∨ (decide ((d.s.length : Int) < 1) = false ∧ decide ((4096 : Int) < d.s.length) = false ∧ decide ((4096 : Int) < d.p.length) = true) ∨
    (decide ((d.s.length : Int) < 1) = false ∧ decide ((4096 : Int) < d.s.length) = false ∧ decide ((4096 : Int) < d.p.length) = false ∧ decide (d.left < -1) = true) ∨ (decide ((d.s.length : Int) < 1) = false ∧ decide ((4096 : Int) < d.s.length) = false ∧ decide ((4096 : Int) < d.p.length) = false ∧ decide (d.left < -1) = false ∧ decide ((65536 : Int) < d.left) = true) ∨
    (decide ((d.s.length : Int) < 1) = false ∧ decide ((4096 : Int) < d.s.length) = false ∧ decide ((4096 : Int) < d.p.length) = false ∧ decide (d.left < -1) = false ∧ decide ((65536 : Int) < d.left) = false) := by
  cases decide ((d.s.length : Int) < 1) <;> cases decide ((4096 : Int) < d.s.length) <;> cases decide ((4096 : Int) < d.p.length) <;> cases decide (d.left < -1) <;> cases decide ((65536 : Int) < d.left) <;> simp
set_option maxHeartbeats 8000000 in
set_option maxRecDepth 100000 in
theorem check_says (v : Value) (d : Dk) (w : World) (h : DiskV w v d) : Calls Try.prog 22 #[v] w fun e w' => e = .returned (.int .i64 (checkD d)) ∧ Below w.heap.size w w' := by
  obtain ⟨A0, c0, A1, c1, rfl, h0, h1, hC0, hC1⟩ := h
  have B2 := Aside0.mk (below_alloc (below_alloc (Below.refl w.heap.size w) (.cells #[.slice A0 d.s.length c0, .slice A1 d.p.length c1, .int .i64 d.left, .bool d.st] 25)) (.cells #[.int .i64 (d.s.length : Int)] 3))
  have C0 := Aside0.mk (Kd.C_below hC0 B2.out)
  have C1 := Aside0.mk (Kd.C_below hC1 B2.out)
  clear h0 h1 hC0 hC1
  have hmf : ∀ (fn : Fn) (first cap : Array Value) (w : World), (Instr.makeFunc fn first cap).run Try.prog w = .ok (.func fn first cap) w := fun _ _ _ _ => rfl
  have K2 := Aside0.mk (show ((w.alloc (.cells #[.slice A0 d.s.length c0, .slice A1 d.p.length c1, .int .i64 d.left, .bool d.st] 25)).alloc (.cells #[.int .i64 (d.s.length : Int)] 3)).cell? ⟨w.heap.size + 1, 0, none⟩ = some (.int .i64 (d.s.length : Int)) from by go_simp)
  rcases okD_cases d with a | ⟨a, b⟩ | ⟨a, b, c⟩ | ⟨a, b, c, e⟩ | ⟨a, b, c, e, f⟩ | ⟨a, b, c, e, f⟩
  · have HN := Aside0.mk (show checkD d = 450 from by unfold checkD okD numsD; simp only [a]; rfl)
    go_enter Try.func22, Try.ntmps22
    go_wp2
    go_ret
    exact ⟨by rw [HN.out]; rfl, B2.out⟩
  · have HN := Aside0.mk (show checkD d = 450 from by unfold checkD okD numsD; simp only [a, b]; rfl)
    go_enter Try.func22, Try.ntmps22
    go_wp2
    go_ret
    exact ⟨by rw [HN.out]; rfl, B2.out⟩
  · have HN := Aside0.mk (show checkD d = 450 from by unfold checkD okD numsD; simp only [a, b, c]; rfl)
    go_enter Try.func22, Try.ntmps22
    go_wp2
    go_ret
    exact ⟨by rw [HN.out]; rfl, B2.out⟩
  · have HN := Aside0.mk (show checkD d = 450 from by unfold checkD okD numsD; simp only [a, b, c, e]; rfl)
    go_enter Try.func22, Try.ntmps22
    go_wp2
    go_ret
    exact ⟨by rw [HN.out]; rfl, B2.out⟩
  · have HN := Aside0.mk (show checkD d = 450 from by unfold checkD okD numsD; simp only [a, b, c, e, f]; rfl)
    go_enter Try.func22, Try.ntmps22
    go_wp2
    go_ret
    exact ⟨by rw [HN.out]; rfl, B2.out⟩
  · have HN := Aside0.mk (show numsD d = false from by unfold numsD; simp only [a, b, c, e, f]; rfl)
    cases h2 : d.p.any (badW d.s.length) with
    | true =>
      have HN2 := Aside0.mk (show checkD d = 450 from by unfold checkD okD; rw [HN.out, h2]; rfl)
      have H2 := Aside0.mk h2
      clear h2
      go_enter Try.func22, Try.ntmps22
      go_wp2_with (go_at_call 54; (refine (any_wr (w.heap.size + 1) d.s.length A1 c1 d.p _ C1.out K2.out).mono ?_); rintro e w1 ⟨he, hb⟩; rw [H2.out] at he; obtain rfl := he; have B3 := Aside0.mk (below_step B2.out hb); clear hb)
      go_ret
      exact ⟨by rw [HN2.out]; rfl, B3.out⟩
    | false =>
      have H2 := Aside0.mk h2
      clear h2
      cases h3 : d.s.any (fun b => !secB b.length) with
      | true =>
        have HN2 := Aside0.mk (show checkD d = 450 from by unfold checkD okD; rw [HN.out, H2.out, h3]; rfl)
        have H3 := Aside0.mk h3
        clear h3
        go_enter Try.func22, Try.ntmps22
        go_wp2_with (first | (go_at_call 54; (refine (any_wr (w.heap.size + 1) d.s.length A1 c1 d.p _ C1.out K2.out).mono ?_); rintro e w1 ⟨he, hb⟩; rw [H2.out] at he; obtain rfl := he; have B3 := Aside0.mk (below_step B2.out hb); have C3 := Aside0.mk (Kd.C_below C0.out hb); have z0 := (blk_below (blk_alloc (blk_new w (.cells #[.slice A0 d.s.length c0, .slice A1 d.p.length c1, .int .i64 d.left, .bool d.st] 25)) (.cells #[.int .i64 (d.s.length : Int)] 3)) hb); have z1 := (blk_cell z0 0).trans rfl; clear hb z0) | (go_at_call 55; (refine (any_sec A0 c0 d.s _ C3.out).mono ?_); rintro e w2 ⟨he, hb⟩; rw [H3.out] at he; obtain rfl := he; have B4 := Aside0.mk (below_step B3.out hb); clear hb))
        go_ret
        exact ⟨by rw [HN2.out]; rfl, B4.out⟩
      | false =>
        have HN2 := Aside0.mk (show checkD d = 0 from by unfold checkD okD; rw [HN.out, H2.out, h3]; rfl)
        have H3 := Aside0.mk h3
        clear h3
        go_enter Try.func22, Try.ntmps22
        go_wp2_with (first | (go_at_call 54; (refine (any_wr (w.heap.size + 1) d.s.length A1 c1 d.p _ C1.out K2.out).mono ?_); rintro e w1 ⟨he, hb⟩; rw [H2.out] at he; obtain rfl := he; have B3 := Aside0.mk (below_step B2.out hb); have C3 := Aside0.mk (Kd.C_below C0.out hb); have z0 := (blk_below (blk_alloc (blk_new w (.cells #[.slice A0 d.s.length c0, .slice A1 d.p.length c1, .int .i64 d.left, .bool d.st] 25)) (.cells #[.int .i64 (d.s.length : Int)] 3)) hb); have z1 := (blk_cell z0 0).trans rfl; clear hb z0) | (go_at_call 55; (refine (any_sec A0 c0 d.s _ C3.out).mono ?_); rintro e w2 ⟨he, hb⟩; rw [H3.out] at he; obtain rfl := he; have B4 := Aside0.mk (below_step B3.out hb); clear hb))
        go_ret
        exact ⟨by rw [HN2.out]; rfl, B4.out⟩
end Go.Proofs.Ytlnmjgkeiljniaa.Q
/- disk.runs, has, Restart, Stop. -/
namespace Go.Proofs.Ytlnmjgkeiljniaa.Q
open Go.RowKit Go.Proofs.YtlnmjgkeiljniaaW.PrintWords Go.Proofs.YtlnmjgkeiljniaaW.PrintLast Go.Proofs.YtlnmjgkeiljniaaW.PrintMore
set_option linter.unusedVariables false
set_option linter.unusedSimpArgs false
theorem info25' : (Try.prog.info? 25).map (·.size) = some 4 := by kernel_rfl
theorem diskV_mk {W : World} {d : Dk} {A0 A1 : Option Addr} {c0 c1 : Nat} (h0 : d.s.length ≤ c0) (h1 : d.p.length ≤ c1) (hC0 : (Kd.slice 5 (Kd.int .u8)).C W A0 d.s.length d.s) (hC1 : k76.C W A1 d.p.length d.p) : DiskV W (.agg #[.slice A0 d.s.length c0, .slice A1 d.p.length c1, .int .i64 d.left, .bool d.st]) d := ⟨A0, c0, A1, c1, rfl, h0, h1, hC0, hC1⟩
set_option maxHeartbeats 8000000 in
set_option maxRecDepth 100000 in
theorem runs_says (v : Value) (d : Dk) (w : World) (h : DiskV w v d) : Calls Try.prog 57 #[v] w fun e w' => e = .returned (.bool (runsD d)) ∧ Below w.heap.size w w' := by
  have hd := h
  obtain ⟨A0, c0, A1, c1, rfl, h0, h1, hC0, hC1⟩ := h
  have B1 := Aside0.mk (below_alloc (Below.refl w.heap.size w) (.cells #[.slice A0 d.s.length c0, .slice A1 d.p.length c1, .int .i64 d.left, .bool d.st] 25))
  have D1 := Aside0.mk (hd.below B1.out)
  have V1 := Aside0.mk (blk_new w (.cells #[.slice A0 d.s.length c0, .slice A1 d.p.length c1, .int .i64 d.left, .bool d.st] 25))
  have hu25 := Try.underlying25
  clear hd h0 h1 hC0 hC1
  cases h2 : okD d with
  | false =>
    have H := Aside0.mk (show checkD d = 450 from by unfold checkD; rw [h2]; rfl)
    have HR := Aside0.mk (show runsD d = false from by unfold runsD; rw [h2]; rfl)
    clear h2
    go_enter Try.func57, Try.ntmps57
    go_wp2_with (go_at_call 22; (refine (check_says _ d _ D1.out).mono ?_); rintro e w1 ⟨he, hb⟩; rw [H.out] at he; obtain rfl := he; have B2 := Aside0.mk (below_step B1.out hb); clear hb)
    go_ret
    exact ⟨by rw [HR.out]; rfl, B2.out⟩
  | true =>
    have H := Aside0.mk (show checkD d = 0 from by unfold checkD; rw [h2]; rfl)
    have HR := Aside0.mk (show runsD d = !d.st from by unfold runsD; rw [h2]; rfl)
    clear h2
    go_enter Try.func57, Try.ntmps57
    go_wp2_with (go_at_call 22; (refine (check_says _ d _ D1.out).mono ?_); rintro e w1 ⟨he, hb⟩; rw [H.out] at he; obtain rfl := he; have B2 := Aside0.mk (below_step B1.out hb); have z0 := (blk_cell (blk_below V1.out hb) 3).trans rfl; clear hb)
    go_ret
    exact ⟨by rw [HR.out]; rfl, B2.out⟩
set_option maxHeartbeats 8000000 in
set_option maxRecDepth 100000 in
theorem has_says (v : Value) (d : Dk) (a : Int) (w : World) (h : DiskV w v d) : Calls Try.prog 58 #[v, .int .i64 a] w fun e w' => e = .returned (.bool (hasD d a)) ∧ Below w.heap.size w w' := by
  obtain ⟨A0, c0, A1, c1, rfl, h0, h1, hC0, hC1⟩ := h
  have B1 := Aside0.mk (below_alloc (Below.refl w.heap.size w) (.cells #[.slice A0 d.s.length c0, .slice A1 d.p.length c1, .int .i64 d.left, .bool d.st] 25))
  clear h0 h1 hC0 hC1
  unfold hasD
  cases h2 : decide (0 ≤ a) with
  | false =>
    go_enter Try.func58, Try.ntmps58
    go_wp2
    go_ret
    exact ⟨rfl, B1.out⟩
  | true =>
    go_enter Try.func58, Try.ntmps58
    go_wp2
    go_ret
    exact ⟨rfl, B1.out⟩
set_option maxHeartbeats 8000000 in
set_option maxRecDepth 100000 in
theorem restart_says (v : Value) (d : Dk) (w : World) (h : DiskV w v d) : Calls Try.prog 24 #[v] w fun e w' => (∃ v', e = .returned v' ∧ DiskV w' v' (restartD d)) ∧ Below w.heap.size w w' := by
  obtain ⟨A0, c0, A1, c1, rfl, h0, h1, hC0, hC1⟩ := h
  have HC := Aside0.mk hC0
  have H0 := Aside0.mk h0
  have B2 := Aside0.mk (below_alloc (below_alloc (Below.refl w.heap.size w) (.cells #[.slice A0 d.s.length c0, .slice A1 d.p.length c1, .int .i64 d.left, .bool d.st] 25)) (.cells #[.slice none 0 0, .slice none 0 0, .int .i64 0, .bool false] 25))
  have V2 := Aside0.mk (blk_new (w.alloc (.cells #[.slice A0 d.s.length c0, .slice A1 d.p.length c1, .int .i64 d.left, .bool d.st] 25)) (.cells #[.slice none 0 0, .slice none 0 0, .int .i64 0, .bool false] 25))
  have hu25 := Try.underlying25
  clear h0 h1 hC0 hC1
  go_enter Try.func24, Try.ntmps24
  go_wp2
  have E := blk_new (w.alloc (.cells #[.slice A0 d.s.length c0, .slice A1 d.p.length c1, .int .i64 d.left, .bool d.st] 25)) (.cells #[.slice A0 d.s.length c0, .slice none 0 0, .int .i64 (-1), .bool false] 25)
  rw [show (w.alloc (.cells #[.slice A0 d.s.length c0, .slice A1 d.p.length c1, .int .i64 d.left, .bool d.st] 25)).heap.size = w.heap.size + 1 by simp] at E
  refine bodyPost_ret (results_cell_row rfl _ _ (w.heap.size + 1) 25 #[.slice A0 d.s.length c0, .slice none 0 0, .int .i64 (-1), .bool false] (0, 0) _ rfl E hu25 rfl info25') rfl ?_
  have B3 := below_alloc (below_alloc (Below.refl w.heap.size w) (.cells #[.slice A0 d.s.length c0, .slice A1 d.p.length c1, .int .i64 d.left, .bool d.st] 25)) (.cells #[.slice A0 d.s.length c0, .slice none 0 0, .int .i64 (-1), .bool false] 25)
  exact ⟨⟨_, rfl, diskV_mk (d := restartD d) H0.out (Nat.zero_le _) (Kd.C_below HC.out B3) (Kd.C_nil _ _)⟩, B3⟩
/-- a result: a disk and an error -/
def DEnds (w : World) (r : Dk × Int) (e : Ending) (w' : World) : Prop := (∃ v, e = .returned (.tuple #[v, .int .i64 r.2]) ∧ DiskV w' v r.1) ∧ Below w.heap.size w w'
theorem diskV_zero (W : World) : DiskV W (.agg #[.slice none 0 0, .slice none 0 0, .int .i64 0, .bool false]) zeroD := diskV_mk (d := zeroD) (Nat.le_refl _) (Nat.le_refl _) (Kd.C_nil _ _) (Kd.C_nil _ _)
set_option maxHeartbeats 8000000 in
set_option maxRecDepth 100000 in
theorem stop_says (v : Value) (d : Dk) (n : Int) (w : World) (h : DiskV w v d) : Calls Try.prog 32 #[v, .int .i64 n] w (DEnds w (stopD d n)) := by
  have hd := h
  obtain ⟨A0, c0, A1, c1, rfl, h0, h1, hC0, hC1⟩ := h
  have B2 := Aside0.mk (below_alloc (below_alloc (Below.refl w.heap.size w) (.cells #[.slice A0 d.s.length c0, .slice A1 d.p.length c1, .int .i64 d.left, .bool d.st] 25)) (.cells #[.slice none 0 0, .slice none 0 0, .int .i64 0, .bool false] 25))
  have D2 := Aside0.mk (hd.below B2.out)
  have V1 := Aside0.mk (blk_alloc (blk_new w (.cells #[.slice A0 d.s.length c0, .slice A1 d.p.length c1, .int .i64 d.left, .bool d.st] 25)) (.cells #[.slice none 0 0, .slice none 0 0, .int .i64 0, .bool false] 25))
  have V2 := Aside0.mk (show ((w.alloc (.cells #[.slice A0 d.s.length c0, .slice A1 d.p.length c1, .int .i64 d.left, .bool d.st] 25)).alloc (.cells #[.slice none 0 0, .slice none 0 0, .int .i64 0, .bool false] 25)).heap[w.heap.size + 1]? = some (.cells #[.slice none 0 0, .slice none 0 0, .int .i64 0, .bool false] 25 (0, 0)) from by have h_ := blk_new (w.alloc (.cells #[.slice A0 d.s.length c0, .slice A1 d.p.length c1, .int .i64 d.left, .bool d.st] 25)) (.cells #[.slice none 0 0, .slice none 0 0, .int .i64 0, .bool false] 25); simpa using h_)
  have HC0 := Aside0.mk hC0
  have HC1 := Aside0.mk hC1
  have HL := Aside0.mk (And.intro h0 h1)
  have hu25 := Try.underlying25
  clear hd h0 h1 hC0 hC1
  cases h2 : runsD d with
  | false =>
    have HR := Aside0.mk h2
    have HE := Aside0.mk (show stopD d n = (zeroD, 450) from by unfold stopD; rw [h2]; rfl)
    clear h2
    go_enter Try.func32, Try.ntmps32
    go_wp2_with (go_at_call 57; (refine (runs_says _ d _ D2.out).mono ?_); rintro e w1 ⟨he, hb⟩; rw [HR.out] at he; obtain rfl := he; have B3 := Aside0.mk (below_step B2.out hb); have V3 := Aside0.mk (blk_below V1.out hb); have V4 := Aside0.mk (blk_below V2.out hb); have v1z0 := (blk_cell V3.out 0).trans rfl; have v1f0 := blk_frozen V3.out 0; have v1z1 := (blk_cell V3.out 1).trans rfl; have v1f1 := blk_frozen V3.out 1; have v1z2 := (blk_cell V3.out 2).trans rfl; have v1f2 := blk_frozen V3.out 2; have v1z3 := (blk_cell V3.out 3).trans rfl; have v1f3 := blk_frozen V3.out 3; have v2z0 := (blk_cell V4.out 0).trans rfl; have v2f0 := blk_frozen V4.out 0; have v2z1 := (blk_cell V4.out 1).trans rfl; have v2f1 := blk_frozen V4.out 1; have v2z2 := (blk_cell V4.out 2).trans rfl; have v2f2 := blk_frozen V4.out 2; have v2z3 := (blk_cell V4.out 3).trans rfl; have v2f3 := blk_frozen V4.out 3; clear hb)
    have E := (blk_set (blk_set (blk_set (blk_set V4.out 0 (.slice none 0 0)) 1 (.slice none 0 0)) 2 (.int .i64 0)) 3 (.bool false))
    refine bodyPost_ret (results_ct rfl _ _ (w.heap.size + 1) 25 #[.slice none 0 0, .slice none 0 0, .int .i64 0, .bool false] (0, 0) _ rfl E hu25 rfl info25') rfl ?_
    exact ⟨⟨_, by rw [HE.out]; rfl, by rw [HE.out]; exact diskV_zero _⟩, (Below.setCell (p := ⟨w.heap.size + 1, 3, none⟩) (Below.setCell (p := ⟨w.heap.size + 1, 2, none⟩) (Below.setCell (p := ⟨w.heap.size + 1, 1, none⟩) (Below.setCell (p := ⟨w.heap.size + 1, 0, none⟩) B3.out (by simp) (.slice none 0 0)) (by simp) (.slice none 0 0)) (by simp) (.int .i64 0)) (by simp) (.bool false))⟩
  | true =>
    have HR := Aside0.mk h2
    cases h3 : decide (n < 0) with
    | true =>
      have HE := Aside0.mk (show stopD d n = (zeroD, 1) from by unfold stopD; rw [h2, if_pos rfl, if_pos (.inl (of_decide_eq_true h3))])
      clear h2
      go_enter Try.func32, Try.ntmps32
      go_wp2_with (go_at_call 57; (refine (runs_says _ d _ D2.out).mono ?_); rintro e w1 ⟨he, hb⟩; rw [HR.out] at he; obtain rfl := he; have B3 := Aside0.mk (below_step B2.out hb); have V3 := Aside0.mk (blk_below V1.out hb); have V4 := Aside0.mk (blk_below V2.out hb); have v1z0 := (blk_cell V3.out 0).trans rfl; have v1f0 := blk_frozen V3.out 0; have v1z1 := (blk_cell V3.out 1).trans rfl; have v1f1 := blk_frozen V3.out 1; have v1z2 := (blk_cell V3.out 2).trans rfl; have v1f2 := blk_frozen V3.out 2; have v1z3 := (blk_cell V3.out 3).trans rfl; have v1f3 := blk_frozen V3.out 3; have v2z0 := (blk_cell V4.out 0).trans rfl; have v2f0 := blk_frozen V4.out 0; have v2z1 := (blk_cell V4.out 1).trans rfl; have v2f1 := blk_frozen V4.out 1; have v2z2 := (blk_cell V4.out 2).trans rfl; have v2f2 := blk_frozen V4.out 2; have v2z3 := (blk_cell V4.out 3).trans rfl; have v2f3 := blk_frozen V4.out 3; clear hb)
      skip
      have E := (blk_set (blk_set (blk_set (blk_set V4.out 0 (.slice none 0 0)) 1 (.slice none 0 0)) 2 (.int .i64 0)) 3 (.bool false))
      refine bodyPost_ret (results_ct rfl _ _ (w.heap.size + 1) 25 #[.slice none 0 0, .slice none 0 0, .int .i64 0, .bool false] (0, 0) _ rfl E hu25 rfl info25') rfl ?_
      exact ⟨⟨_, by rw [HE.out]; rfl, by rw [HE.out]; exact diskV_zero _⟩, (Below.setCell (p := ⟨w.heap.size + 1, 3, none⟩) (Below.setCell (p := ⟨w.heap.size + 1, 2, none⟩) (Below.setCell (p := ⟨w.heap.size + 1, 1, none⟩) (Below.setCell (p := ⟨w.heap.size + 1, 0, none⟩) B3.out (by simp) (.slice none 0 0)) (by simp) (.slice none 0 0)) (by simp) (.int .i64 0)) (by simp) (.bool false))⟩
    | false =>
      cases h4 : decide (65536 < n) with
      | true =>
        have HE := Aside0.mk (show stopD d n = (zeroD, 1) from by unfold stopD; rw [h2, if_pos rfl, if_pos (.inr (of_decide_eq_true h4))])
        clear h2
        go_enter Try.func32, Try.ntmps32
        go_wp2_with (go_at_call 57; (refine (runs_says _ d _ D2.out).mono ?_); rintro e w1 ⟨he, hb⟩; rw [HR.out] at he; obtain rfl := he; have B3 := Aside0.mk (below_step B2.out hb); have V3 := Aside0.mk (blk_below V1.out hb); have V4 := Aside0.mk (blk_below V2.out hb); have v1z0 := (blk_cell V3.out 0).trans rfl; have v1f0 := blk_frozen V3.out 0; have v1z1 := (blk_cell V3.out 1).trans rfl; have v1f1 := blk_frozen V3.out 1; have v1z2 := (blk_cell V3.out 2).trans rfl; have v1f2 := blk_frozen V3.out 2; have v1z3 := (blk_cell V3.out 3).trans rfl; have v1f3 := blk_frozen V3.out 3; have v2z0 := (blk_cell V4.out 0).trans rfl; have v2f0 := blk_frozen V4.out 0; have v2z1 := (blk_cell V4.out 1).trans rfl; have v2f1 := blk_frozen V4.out 1; have v2z2 := (blk_cell V4.out 2).trans rfl; have v2f2 := blk_frozen V4.out 2; have v2z3 := (blk_cell V4.out 3).trans rfl; have v2f3 := blk_frozen V4.out 3; clear hb)
        skip
        have E := (blk_set (blk_set (blk_set (blk_set V4.out 0 (.slice none 0 0)) 1 (.slice none 0 0)) 2 (.int .i64 0)) 3 (.bool false))
        refine bodyPost_ret (results_ct rfl _ _ (w.heap.size + 1) 25 #[.slice none 0 0, .slice none 0 0, .int .i64 0, .bool false] (0, 0) _ rfl E hu25 rfl info25') rfl ?_
        exact ⟨⟨_, by rw [HE.out]; rfl, by rw [HE.out]; exact diskV_zero _⟩, (Below.setCell (p := ⟨w.heap.size + 1, 3, none⟩) (Below.setCell (p := ⟨w.heap.size + 1, 2, none⟩) (Below.setCell (p := ⟨w.heap.size + 1, 1, none⟩) (Below.setCell (p := ⟨w.heap.size + 1, 0, none⟩) B3.out (by simp) (.slice none 0 0)) (by simp) (.slice none 0 0)) (by simp) (.int .i64 0)) (by simp) (.bool false))⟩
      | false =>
        have HE := Aside0.mk (show stopD d n = (⟨d.s, d.p, n, d.st⟩, 0) from by unfold stopD; rw [h2, if_pos rfl, if_neg (by have := of_decide_eq_false h3; have := of_decide_eq_false h4; omega)])
        clear h2
        go_enter Try.func32, Try.ntmps32
        go_wp2_with (go_at_call 57; (refine (runs_says _ d _ D2.out).mono ?_); rintro e w1 ⟨he, hb⟩; rw [HR.out] at he; obtain rfl := he; have B3 := Aside0.mk (below_step B2.out hb); have V3 := Aside0.mk (blk_below V1.out hb); have V4 := Aside0.mk (blk_below V2.out hb); have v1z0 := (blk_cell V3.out 0).trans rfl; have v1f0 := blk_frozen V3.out 0; have v1z1 := (blk_cell V3.out 1).trans rfl; have v1f1 := blk_frozen V3.out 1; have v1z2 := (blk_cell V3.out 2).trans rfl; have v1f2 := blk_frozen V3.out 2; have v1z3 := (blk_cell V3.out 3).trans rfl; have v1f3 := blk_frozen V3.out 3; have v2z0 := (blk_cell V4.out 0).trans rfl; have v2f0 := blk_frozen V4.out 0; have v2z1 := (blk_cell V4.out 1).trans rfl; have v2f1 := blk_frozen V4.out 1; have v2z2 := (blk_cell V4.out 2).trans rfl; have v2f2 := blk_frozen V4.out 2; have v2z3 := (blk_cell V4.out 3).trans rfl; have v2f3 := blk_frozen V4.out 3; clear hb)
        have E := (blk_set (blk_set (blk_set (blk_set (blk_far V4.out (p := ⟨w.heap.size, 2, none⟩) (by simp) (.int .i64 n)) 0 (.slice A0 d.s.length c0)) 1 (.slice A1 d.p.length c1)) 2 (.int .i64 n)) 3 (.bool d.st))
        have B4 := (Below.setCell (p := ⟨w.heap.size + 1, 3, none⟩) (Below.setCell (p := ⟨w.heap.size + 1, 2, none⟩) (Below.setCell (p := ⟨w.heap.size + 1, 1, none⟩) (Below.setCell (p := ⟨w.heap.size + 1, 0, none⟩) (Below.setCell (p := ⟨w.heap.size, 2, none⟩) B3.out (Nat.le_refl _) (.int .i64 n)) (by simp) (.slice A0 d.s.length c0)) (by simp) (.slice A1 d.p.length c1)) (by simp) (.int .i64 n)) (by simp) (.bool d.st))
        refine bodyPost_ret (results_ct rfl _ _ (w.heap.size + 1) 25 #[.slice A0 d.s.length c0, .slice A1 d.p.length c1, .int .i64 n, .bool d.st] (0, 0) _ rfl E hu25 rfl info25') rfl ?_
        exact ⟨⟨_, by rw [HE.out]; rfl, by rw [HE.out]; exact diskV_mk (d := ⟨d.s, d.p, n, d.st⟩) HL.out.1 HL.out.2 (Kd.C_below HC0.out B4) (Kd.C_below HC1.out B4)⟩, B4⟩
end Go.Proofs.Ytlnmjgkeiljniaa.Q
/- disk.New, with slices.Repeat. -/
namespace Go.Proofs.Ytlnmjgkeiljniaa.Q
open Go.RowKit Go.Proofs.YtlnmjgkeiljniaaW.PrintWords Go.Proofs.YtlnmjgkeiljniaaW.PrintLast Go.Proofs.YtlnmjgkeiljniaaW.PrintMore
set_option linter.unusedVariables false
set_option linter.unusedSimpArgs false
theorem wraps_u64 (n : Int) (h0 : 0 ≤ n) (h1 : n < 2 ^ 64) : IntKind.u64.wrap n = n := by simp [IntKind.wrap, IntKind.bits, IntKind.signed]; omega
set_option maxHeartbeats 8000000 in
set_option maxRecDepth 100000 in
theorem mul64_one (m : Nat) (w : World) (hm : m ≤ 4096) : Calls Try.prog 91 #[.int .u64 1, .int .u64 (m : Int)] w fun e w' => e = .returned (.tuple #[.int .u64 0, .int .u64 (m : Int)]) ∧ w = w' := by
  have h0 : (0 : Int) ≤ (m : Int) := by omega
  have h1 : (m : Int) ≤ 4096 := by omega
  clear hm
  go_enter Try.func91, Try.ntmps91
  go_wp2
  have w1 : ∀ n : Int, 0 ≤ n → n ≤ 4096 → IntKind.u64.wrap n = n := fun n a b => by simp [IntKind.wrap, IntKind.bits, IntKind.signed]; omega
  have e1 : bits .and .u64 1 4294967295 = 1 := by kernel_rfl
  have e0 : bits .and .u64 0 4294967295 = 0 := by kernel_rfl
  have e2 : bits .and .u64 (m : Int) 4294967295 = (m : Int) := (bits_mask .u64 64 (by decide) (fun n a b => by simp [IntKind.wrap, IntKind.bits, IntKind.signed]; omega) 32 (by decide) (m : Int) h0 (by omega)).trans (by omega)
  have e3 : (m : Int) / 4294967296 = 0 := by omega
  go_ret2
  refine ⟨?_, rfl⟩
  simp [e1, e2, e3, e0, w1 _ h0 h1, w1 0 (by decide) (by decide)]
set_option maxHeartbeats 8000000 in
set_option maxRecDepth 100000 in
theorem mul_one_says (m : Nat) (w : World) (hm : m ≤ 4096) : Calls Try.prog 77 #[.int .u64 1, .int .u64 (m : Int)] w fun e w' => e = .returned (.tuple #[.int .u64 0, .int .u64 (m : Int)]) ∧ w = w' := by
  go_enter Try.func77, Try.ntmps77
  go_wp2_with (go_at_call 91; refine (mul64_one m _ hm).mono ?_; rintro e w' ⟨rfl, rfl⟩)
  go_ret2
  exact ⟨rfl, rfl⟩
end Go.Proofs.Ytlnmjgkeiljniaa.Q
