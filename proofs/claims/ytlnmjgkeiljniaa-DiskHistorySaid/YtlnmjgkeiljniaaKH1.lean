/- The proof's texts, part 2 of 7. -/
import Derived.Laws.CopyOwn
import Derived.Test.YtlnmjgkeiljniaaKH0
set_option linter.unusedVariables false
set_option linter.unusedSimpArgs false
/- disk.New, with slices.Repeat. -/
namespace Go.Proofs.Ytlnmjgkeiljniaa.Q
open Go.RowKit Go.Proofs.YtlnmjgkeiljniaaW.PrintWords Go.Proofs.YtlnmjgkeiljniaaW.PrintLast Go.Proofs.YtlnmjgkeiljniaaW.PrintMore
set_option linter.unusedVariables false
set_option linter.unusedSimpArgs false
theorem made_row (v : Value) (m : Nat) : madeCells #[v] m = (List.replicate m v).toArray := by
  apply Array.ext
  · simp [madeCells]
  · intro i h1 h2
    simp [madeCells, Nat.mod_one]
/-- the row under way: k copies so far -/
def upTo (z : Value) (k m : Nat) : List Value := List.replicate k z ++ List.replicate (m - k) (.slice none 0 0)
theorem upTo_len (z : Value) (k m : Nat) (h : k ≤ m) : (upTo z k m).length = m := by simp [upTo]; omega
theorem upTo_get (z : Value) (k m j : Nat) (h : j < k) : (upTo z k m)[j]? = some z := by simp [upTo, List.getElem?_append, h]
theorem upTo_splice (z : Value) (k m c : Nat) (h : k + c ≤ m) : splice (upTo z k m) k (List.replicate c z) = upTo z (k + c) m := by
  unfold splice upTo
  apply List.ext_getElem
  · simp; omega
  · intro i h1 h2
    simp [List.getElem_append, List.getElem_take, List.getElem_drop]
    repeat' split
    all_goals first | rfl | omega
theorem upTo_zero (z : Value) (m : Nat) : upTo z 0 m = List.replicate m (.slice none 0 0) := by simp [upTo]
theorem upTo_all (z : Value) (m : Nat) : upTo z m m = List.replicate m z := by simp [upTo]
theorem cell_arr {w : World} {g : Nat} {cs : List Value} {t : TypeId} (h : w.heap[g]? = some (.cells cs.toArray t (0, 0))) (j : Nat) (v : Value) (hj : cs[j]? = some v) : w.cell? ⟨g, j, none⟩ = some v := by
  have := blk_cell h j
  rw [this]
  simpa using hj
theorem info35s : (Try.prog.info? 35).map (·.size) = some 1 := by kernel_rfl
theorem wrap64_s (n : Int) (h0 : 0 ≤ n) (h1 : n ≤ 4000000) : wrap64 n = n := by unfold wrap64; omega
set_option maxHeartbeats 8000000 in
set_option maxRecDepth 100000 in
theorem repeat_says (g m : Nat) (z : Value) (hz1 : z.oneCell' = true) (w : World) (hg : w.heap[g]? = some (.cells #[z] 35 (0, 0))) (h1 : 1 ≤ m) (hm : m ≤ 4096) :
    Calls Try.prog 51 #[.slice (some ⟨g, 0, none⟩) 1 1, .int .i64 (m : Int)] w fun e w' => e = .returned (.slice (some ⟨w.heap.size, 0, none⟩) m m) ∧ w'.heap[w.heap.size]? = some (.cells (List.replicate m z).toArray 35 (0, 0)) ∧ Below w.heap.size w w' := by
  have hmk : ∀ W : World, (Instr.makeSlice 22 (.int .i64 (m : Int)) (.int .i64 (m : Int))).run Try.prog W = .ok (.slice (some ⟨W.heap.size, 0, none⟩) m m) (W.alloc (.cells (upTo z 0 m).toArray 35)) := fun W => by
    rw [upTo_zero, ← made_row]
    exact run_make_row' 22 35 (.slice none 0 0) 24 Try.underlying22 info35 rfl .i64 .i64 m (by omega) (by omega) W
  have G := Aside0.mk (show (w.alloc (.cells (upTo z 0 m).toArray 35)).heap[g]? = some (.cells #[z] 35 (0, 0)) from blk_alloc hg _)
  have NB := Aside0.mk (blk_new w (.cells (upTo z 0 m).toArray 35))
  have B1 := Aside0.mk (below_alloc (Below.refl w.heap.size w) (.cells (upTo z 0 m).toArray 35))
  have q0 : (0 : Int) ≤ (m : Int) := by omega
  have q1 : (m : Int) ≤ 4096 := by omega
  have q3 : decide ((m : Int) < 0) = false := decide_eq_false (by omega)
  have q4 : decide ((9223372036854775807 : Int) < (m : Int)) = false := decide_eq_false (by omega)
  have HM := Aside0.mk (And.intro h1 hm)
  have HZ1 := Aside0.mk hz1
  have q2 : IntKind.u64.wrap (m : Int) = (m : Int) := wraps_u64 _ (by omega) (by omega)
  clear hg h1 hm hz1
  go_enter Try.func51, Try.ntmps51
  go_upto_region 7 with (go_at_call 77; refine (mul_one_says m _ HM.out.2).mono ?_; rintro e w' ⟨rfl, rfl⟩)
  generalize w.alloc (.cells (upTo z 0 m).toArray 35) = w2 at *
  go_wp2_with ((with_reducible refine gate_builtin (b := .copy) (xs := #[.tmp 31, .tmp 32]) rfl ?_); go_loud (refine wpList_copy_splice rfl (.tmp 31) (.tmp 32) 22 22 rfl 35 Try.underlying22 info35s (some ⟨w.heap.size, 0, none⟩) (some ⟨g, 0, none⟩) m m 1 1 rfl rfl w.heap.size 0 (upTo z 0 m) 35 NB.out [z] ?cn ?cp ?cf ?c1 w.heap.size w B1.out (Nat.le_refl _) ?_; (case cn => exact (show 1 = min 1 m from (Nat.min_eq_left HM.out.1).symm)); (case cp => intro _; refine ⟨rfl, _, rfl, fun j v hj => ?_⟩; rw [add_plain]; exact cell_arr (cs := [z]) G.out j v hj); (case cf => rw [upTo_len _ _ _ (Nat.zero_le _)]; exact (show 0 + 1 ≤ m from by have := HM.out.1; omega)); (case c1 => intro v hv; rw [List.mem_singleton.1 hv]; exact HZ1.out); intro w3 hg3 hb3; have R3 := Aside0.mk hg3.out; have B3 := Aside0.mk hb3; clear hg3 hb3 NB B1 G; simp only [List.length_cons, List.length_nil]))
  go_loopg [8] (m - 1) (fun kq v8 w' => ∃ k : Nat, v8 = .int .i64 k ∧ Aside0 (1 ≤ k ∧ k ≤ m ∧ kq + k = m) ∧ Aside0 (w'.heap[w.heap.size]? = some (.cells (upTo z k m).toArray 35 (0, 0))) ∧ Aside0 (Below w.heap.size w w'))
  case atStart => exact ⟨1, rfl, ⟨Nat.le_refl _, HM.out.1, by have := HM.out.1; omega⟩, ⟨by have h_ := upTo_splice z 0 m 1 HM.out.1; rw [Nat.zero_add] at h_; rw [← h_]; exact R3.out⟩, B3⟩
  clear R3 B3
  obtain ⟨k, rfl, HK, HR, HB⟩ := hrel
  by_cases hi : k < m
  · have hi0 : decide (k < m) = true := decide_eq_true hi
    have HKM := Aside0.mk (Nat.le_of_lt hi)
    have hne : ¬ m = k := by omega
    have hk0 : (0 : Int) ≤ (k : Int) := by omega
    have hk1 : (k : Int) ≤ (m : Int) := by omega
    obtain ⟨cN, hcN⟩ : ∃ cN, cN = Nat.min k (m - k) := ⟨_, rfl⟩
    have hc1 : cN ≤ k ∧ cN ≤ m - k ∧ (1 ≤ k → 1 ≤ cN) := by rw [hcN]; exact ⟨Nat.min_le_left _ _, Nat.min_le_right _ _, fun h => Nat.le_min.2 ⟨h, by omega⟩⟩
    have HCN := Aside0.mk hcN
    have HC1 := Aside0.mk hc1
    have HFIT := Aside0.mk (show k + cN ≤ m by omega)
    have q7 : wrap64 ((k : Int) + (cN : Int)) = (k : Int) + (cN : Int) := wrap64_s _ (by omega) (by omega)
    clear hcN hc1
    go_wp2
    have HB := Aside0.mk (below_drew1 HB.out)
    have HR := Aside0.mk (blk_drew HR.out)
    have HSRC := Aside0.mk (show ∀ (j : Nat) (v : Value), (List.replicate cN z)[j]? = some v → wr.drew.cell? ((⟨w.heap.size, 0, none⟩ : Addr).add j) = some v from fun j v hj => by
      have hlt := (List.getElem?_eq_some_iff.1 hj).1
      rw [List.length_replicate] at hlt
      have hv : v = z := by rw [List.getElem?_replicate, if_pos hlt] at hj; exact (Option.some.inj hj).symm
      rw [add_plain, hv]
      exact cell_arr HR.out j z (upTo_get z k m j (Nat.lt_of_lt_of_le hlt HC1.out.1)))
    refine start_ (n := 10) (S := fun w' => True) (ds := []) #[false, false, false, false, false, false, false, false, false, false] (by kernel_rfl) rfl rfl (trivial) (fun hHeld => ?_)
    generalize wr.drew = w4 at *
    refine pure_ (i := 0) (N := some 38) (v := ?_) (a' := ?_) #[true, false, false, false, false, false, false, false, false, false] rfl rfl (by kernel_rfl) (fun _ _ _ h => h) (Or.inl ⟨by rfl, ?_⟩) ?_ ?_
    rotate_left
    · intro w'
      go_simp
      with_reducible rfl
    rotate_left
    · simp only [Act.put, List.setIfInBounds_toArray, List.set_cons_zero, List.set_cons_succ, i64_w, i32_w]
      rfl
    refine pure_ (i := 1) (N := some 39) (v := ?_) (a' := ?_) #[true, true, false, false, false, false, false, false, false, false] rfl rfl (by kernel_rfl) (fun _ _ _ h => h) (Or.inl ⟨by rfl, ?_⟩) ?_ ?_
    rotate_left
    · intro w'
      go_simp
      with_reducible rfl
    rotate_left
    · simp only [Act.put, List.setIfInBounds_toArray, List.set_cons_zero, List.set_cons_succ, i64_w, i32_w]
      rfl
    refine pure_ (i := 2) (N := some 40) (v := ?_) (a' := ?_) #[true, true, true, false, false, false, false, false, false, false] rfl rfl (by kernel_rfl) (fun _ _ _ h => h) (Or.inl ⟨by rfl, ?_⟩) ?_ ?_
    rotate_left
    · intro w'
      go_simp
      with_reducible rfl
    rotate_left
    · simp only [Act.put, List.setIfInBounds_toArray, List.set_cons_zero, List.set_cons_succ, i64_w, i32_w]
      rfl
    refine pure_ (i := 3) (N := some 41) (v := ?_) (a' := ?_) #[true, true, true, true, false, false, false, false, false, false] rfl rfl (by kernel_rfl) (fun _ _ _ h => h) (Or.inl ⟨by rfl, ?_⟩) ?_ ?_
    rotate_left
    · intro w'
      go_simp
      with_reducible rfl
    rotate_left
    · simp only [Act.put, List.setIfInBounds_toArray, List.set_cons_zero, List.set_cons_succ, i64_w, i32_w]
      rfl
    refine pure_ (i := 4) (N := some 42) (v := ?_) (a' := ?_) #[true, true, true, true, true, false, false, false, false, false] rfl rfl (by kernel_rfl) (fun _ _ _ h => h) (Or.inl ⟨by rfl, ?_⟩) ?_ ?_
    rotate_left
    · intro w'
      go_simp
      with_reducible rfl
    rotate_left
    · simp only [Act.put, List.setIfInBounds_toArray, List.set_cons_zero, List.set_cons_succ, i64_w, i32_w]
      rfl
    refine pure_ (i := 5) (N := some 43) (v := ?_) (a' := ?_) #[true, true, true, true, true, true, false, false, false, false] rfl rfl (by kernel_rfl) (fun _ _ _ h => h) (Or.inl ⟨by rfl, ?_⟩) ?_ ?_
    rotate_left
    · intro w'
      go_simp
      with_reducible rfl
    rotate_left
    · simp only [Act.put, List.setIfInBounds_toArray, List.set_cons_zero, List.set_cons_succ, i64_w, i32_w]
      rfl
    refine pure_ (i := 6) (N := some 44) (v := ?_) (a' := ?_) #[true, true, true, true, true, true, true, false, false, false] rfl rfl (by kernel_rfl) (fun _ _ _ h => h) (Or.inl ⟨by rfl, ?_⟩) ?_ ?_
    rotate_left
    · intro w'
      go_simp
      with_reducible rfl
    rotate_left
    · simp only [Act.put, List.setIfInBounds_toArray, List.set_cons_zero, List.set_cons_succ, i64_w, i32_w]
      rfl
    refine one_ (i := 7) (N := some 45) #[true, true, true, true, true, true, true, true, false, false] rfl rfl (by kernel_rfl) (by decide) (fun K hK => ?_)
    refine step_copy_splice rfl (.tmp 41) (.tmp 44) 22 22 rfl 35 Try.underlying22 info35s (some ⟨w.heap.size, k, none⟩) (some ⟨w.heap.size, 0, none⟩) (m - k) (m - k) k m rfl rfl w.heap.size k (upTo z k m) 35 HR.out (List.replicate cN z) (by rw [List.length_replicate]; exact HCN.out) (fun _ => ⟨rfl, _, rfl, fun j v hj => HSRC.out j v hj⟩) (by rw [upTo_len _ _ _ HKM.out, List.length_replicate]; exact HFIT.out) (by intro v hv; rw [List.eq_of_mem_replicate hv]; exact HZ1.out) w.heap.size w HB.out (Nat.le_refl _) ?_
    intro w5 hg5 hb5
    have R5 := Aside0.mk hg5.out
    have B5 := Aside0.mk hb5
    clear hg5 hb5
    simp only [List.length_replicate]
    refine hK.out _ _ (trivial) (fun hHeld => ?_)
    clear hK K
    refine norm_ (a' := ?_) ?_ ?_
    rotate_left
    · show Act.put _ (some 45) _ = _
      simp only [Act.put, List.setIfInBounds_toArray, List.set_cons_zero, List.set_cons_succ, i64_w, i32_w]
      rfl
    refine pure_ (i := 8) (N := some 46) (v := ?_) (a' := ?_) #[true, true, true, true, true, true, true, true, true, false] rfl rfl (by kernel_rfl) (fun _ _ _ h => h) (Or.inl ⟨by rfl, ?_⟩) ?_ ?_
    rotate_left
    · intro w'
      go_simp
      with_reducible rfl
    rotate_left
    · simp only [Act.put, List.setIfInBounds_toArray, List.set_cons_zero, List.set_cons_succ, i64_w, i32_w]
      rfl
    refine pure_ (i := 9) (N := some 8) (v := ?_) (a' := ?_) #[true, true, true, true, true, true, true, true, true, true] rfl rfl (by kernel_rfl) (fun _ _ _ h => h) (Or.inl ⟨by rfl, ?_⟩) ?_ ?_
    rotate_left
    · intro w'
      go_simp
      with_reducible rfl
    rotate_left
    · simp only [Act.put, List.setIfInBounds_toArray, List.set_cons_zero, List.set_cons_succ, i64_w, i32_w]
      rfl
    refine done_ (by kernel_rfl) ?_
    go_wp2
    go_roundg (m - (k + cN))
    case measure => have := HK.out; have := HC1.out.2.2 HK.out.1; have := HFIT.out; omega
    case rel => exact ⟨k + cN, by go_num, ⟨by have := HK.out.1; omega, HFIT.out, by have := HFIT.out; omega⟩, ⟨by rw [← upTo_splice z k m cN HFIT.out]; exact R5.out⟩, B5⟩
  · have hi0 : decide (k < m) = false := decide_eq_false hi
    obtain rfl : k = m := by have := HK.out; omega
    go_wp2
    go_ret
    exact ⟨rfl, by rw [← upTo_all]; exact HR.out, HB.out⟩
/-- a row of slices, told by its block -/
theorem sectors_C {W : World} {nb : Nat} {vs : List Value} {l : List (List Int)} (h : W.heap[nb]? = some (.cells vs.toArray 35 (0, 0))) (hl : vs.length = l.length) (hm : l.length ≤ 9223372036854775807) (hk : ∀ (j : Nat) x v, l[j]? = some x → vs[j]? = some v → ∃ A c, v = .slice A x.length c ∧ x.length ≤ c ∧ (Kd.int .u8).C W A x.length x) : (Kd.slice 5 (Kd.int .u8)).C W (some ⟨nb, 0, none⟩) l.length l := by
  refine ⟨rfl, hm, fun _ => ⟨_, rfl, fun j x hj => ?_⟩⟩
  have hjl := (List.getElem?_eq_some_iff.1 hj).1
  have hv : vs[j]? = some (vs[j]'(by omega)) := List.getElem?_eq_getElem (by omega)
  obtain ⟨A, c, e, h1, h2⟩ := hk j x _ hj hv
  refine ⟨[.slice A x.length c], rfl, ⟨A, c, rfl, h1, h2⟩, fun i u hu => ?_⟩
  have h3 := cell_arr h j _ hv
  rw [e] at h3
  cases i with
  | zero =>
    simp only [List.getElem?_cons_zero, Option.some.injEq] at hu
    subst hu
    rw [add_plain, show j * (Kd.slice 5 (Kd.int .u8)).sz + 0 = j from Nat.mul_one j]
    exact h3
  | succ i => cases i <;> cases hu
/-- bytes, told by their block -/
theorem bytes_C {W : World} {nb : Nat} {l : List Int} {rest : List Value} (h : W.heap[nb]? = some (.cells (nums .u8 l ++ rest).toArray 5 (0, 0))) (hm : l.length ≤ 9223372036854775807) : (Kd.int .u8).C W (some ⟨nb, 0, none⟩) l.length l := by
  refine ⟨rfl, hm, fun _ => ⟨_, rfl, fun j x hj => ?_⟩⟩
  have hjl := (List.getElem?_eq_some_iff.1 hj).1
  refine ⟨[.int .u8 x], rfl, rfl, fun i u hu => ?_⟩
  cases i with
  | zero =>
    simp only [List.getElem?_cons_zero, Option.some.injEq] at hu
    subst hu
    rw [add_plain, show j * (Kd.int .u8).sz + 0 = j from Nat.mul_one j]
    exact cell_arr h j _ (by rw [List.getElem?_append_left (by rw [nums_length]; exact hjl)]; simp [nums, hj])
  | succ i => cases i <;> cases hu
theorem bytes_C0 {W : World} {nb : Nat} {l : List Int} (h : W.heap[nb]? = some (.cells (nums .u8 l).toArray 5 (0, 0))) (hm : l.length ≤ 9223372036854775807) : (Kd.int .u8).C W (some ⟨nb, 0, none⟩) l.length l := bytes_C (rest := []) (by rw [List.append_nil]; exact h) hm
theorem info5s : (Try.prog.info? 5).map (·.size) = some 1 := by kernel_rfl
set_option maxHeartbeats 8000000 in
set_option maxRecDepth 100000 in
theorem new_says (n : Int) (w : World) : Calls Try.prog 19 #[.int .i64 n] w (DEnds w (newD n)) := by
  have hu25 := Try.underlying25
  have V2 := Aside0.mk (blk_new w (.cells #[.slice none 0 0, .slice none 0 0, .int .i64 0, .bool false] 25))
  have B2 := Aside0.mk (below_alloc (Below.refl w.heap.size w) (.cells #[.slice none 0 0, .slice none 0 0, .int .i64 0, .bool false] 25))
  cases h0 : decide (n < 1) with
  | true =>
    have HE := Aside0.mk (show newD n = (zeroD, 1) from by unfold newD; rw [if_pos (.inl (of_decide_eq_true h0))])
    go_enter Try.func19, Try.ntmps19
    go_wp2
    refine bodyPost_ret (results_ct rfl _ _ w.heap.size 25 #[.slice none 0 0, .slice none 0 0, .int .i64 0, .bool false] (0, 0) _ rfl V2.out hu25 rfl info25') rfl ?_
    exact ⟨⟨_, by rw [HE.out]; rfl, by rw [HE.out]; exact diskV_zero _⟩, B2.out⟩
  | false =>
    cases h1 : decide (4096 < n) with
    | true =>
      have HE := Aside0.mk (show newD n = (zeroD, 1) from by unfold newD; rw [if_pos (.inr (of_decide_eq_true h1))])
      go_enter Try.func19, Try.ntmps19
      go_wp2
      refine bodyPost_ret (results_ct rfl _ _ w.heap.size 25 #[.slice none 0 0, .slice none 0 0, .int .i64 0, .bool false] (0, 0) _ rfl V2.out hu25 rfl info25') rfl ?_
      exact ⟨⟨_, by rw [HE.out]; rfl, by rw [HE.out]; exact diskV_zero _⟩, B2.out⟩
    | false =>
      have g0 := of_decide_eq_false h0
      have g1 := of_decide_eq_false h1
      obtain ⟨m, rfl⟩ : ∃ m : Nat, n = (m : Int) := ⟨n.toNat, by omega⟩
      have HE := Aside0.mk (show newD (m : Int) = (⟨List.replicate m (zeros 128), [], -1, false⟩, 0) from by unfold newD; rw [if_neg (by omega)]; rfl)
      have HM := Aside0.mk (show 1 ≤ m ∧ m ≤ 4096 by omega)
      clear g0 g1
      obtain ⟨zs, hzs⟩ : ∃ zs, Aside0 (zs = zeros 128) := ⟨_, ⟨rfl⟩⟩
      have hmk : ∀ W : World, (Instr.makeSlice 35 (.int .i64 128) (.int .i64 128)).run Try.prog W = .ok (.slice (some ⟨W.heap.size, 0, none⟩) 128 128) (W.alloc (.cells (nums .u8 zs).toArray 5)) := fun W => by
        rw [hzs.out, show nums .u8 (zeros 128) = List.replicate 128 (.int .u8 0) by simp [nums, zeros], ← made_row]
        exact run_make_row' 35 5 (.int .u8 0) 1 Try.underlying35 info5 rfl .i64 .i64 128 (by decide) (by decide) W
      have Z3 := Aside0.mk (blk_new (w.alloc (.cells #[.slice none 0 0, .slice none 0 0, .int .i64 0, .bool false] 25)) (.cells (nums .u8 zs).toArray 5))
      have V3 := Aside0.mk (blk_alloc V2.out (.cells (nums .u8 zs).toArray 5))
      have B3 := Aside0.mk (below_alloc B2.out (.cells (nums .u8 zs).toArray 5))
      have hsz : (w.alloc (.cells #[.slice none 0 0, .slice none 0 0, .int .i64 0, .bool false] 25)).heap.size = w.heap.size + 1 := by simp
      rw [hsz] at Z3
      clear hsz V2 B2
      have HS3 := Aside0.mk B3.out.size
      go_enter Try.func19, Try.ntmps19
      go_upto_region 4 with (fail)
      generalize (w.alloc (.cells #[.slice none 0 0, .slice none 0 0, .int .i64 0, .bool false] 25)).alloc (.cells (nums .u8 zs).toArray 5) = w3 at *
      have V4 := Aside0.mk (blk_alloc V3.out (.cells #[.slice (some ⟨w.heap.size + 1, 0, none⟩) 128 128] 35))
      have Z4 := Aside0.mk (blk_alloc Z3.out (.cells #[.slice (some ⟨w.heap.size + 1, 0, none⟩) 128 128] 35))
      have B4 := Aside0.mk (below_alloc B3.out (.cells #[.slice (some ⟨w.heap.size + 1, 0, none⟩) 128 128] 35))
      have G4 := Aside0.mk (blk_new w3 (.cells #[.slice (some ⟨w.heap.size + 1, 0, none⟩) 128 128] 35))
      go_wp2_with (go_at_call 51; (refine (repeat_says _ m (.slice (some ⟨w.heap.size + 1, 0, none⟩) 128 128) rfl _ G4.out HM.out.1 HM.out.2).mono ?_); rintro e w5 ⟨rfl, hr, hb⟩; have R5 := Aside0.mk hr; have V5 := Aside0.mk (blk_below V4.out hb); have Z5 := Aside0.mk (blk_below Z4.out hb); have B5 := Aside0.mk (below_step B4.out hb); have v5z0 := (blk_cell V5.out 0).trans rfl; have v5f0 := blk_frozen V5.out 0; have v5z1 := (blk_cell V5.out 1).trans rfl; have v5f1 := blk_frozen V5.out 1; have v5z2 := (blk_cell V5.out 2).trans rfl; have v5f2 := blk_frozen V5.out 2; have v5z3 := (blk_cell V5.out 3).trans rfl; have v5f3 := blk_frozen V5.out 3; clear hr hb V4 Z4 B4 G4 V3 Z3 B3)
      have hs3 : (w3.alloc (.cells #[.slice (some ⟨w.heap.size + 1, 0, none⟩) 128 128] 35)).heap.size = w3.heap.size + 1 := by simp
      have h1_ := R5.out
      rw [hs3] at h1_
      have hne1 : w3.heap.size + 1 ≠ w.heap.size := by have := HS3.out; omega
      have hne2 : w.heap.size + 1 ≠ w.heap.size := by omega
      have E := (blk_set (blk_set (blk_set (blk_set V5.out 0 (.slice (some ⟨w3.heap.size + 1, 0, none⟩) m m)) 1 (.slice none 0 0)) 2 (.int .i64 (-1))) 3 (.bool false))
      have R6 := (blk_far (blk_far (blk_far (blk_far h1_ (p := ⟨w.heap.size, 0, none⟩) hne1 (.slice (some ⟨w3.heap.size + 1, 0, none⟩) m m)) (p := ⟨w.heap.size, 1, none⟩) hne1 (.slice none 0 0)) (p := ⟨w.heap.size, 2, none⟩) hne1 (.int .i64 (-1))) (p := ⟨w.heap.size, 3, none⟩) hne1 (.bool false))
      have Z6 := (blk_far (blk_far (blk_far (blk_far Z5.out (p := ⟨w.heap.size, 0, none⟩) hne2 (.slice (some ⟨w3.heap.size + 1, 0, none⟩) m m)) (p := ⟨w.heap.size, 1, none⟩) hne2 (.slice none 0 0)) (p := ⟨w.heap.size, 2, none⟩) hne2 (.int .i64 (-1))) (p := ⟨w.heap.size, 3, none⟩) hne2 (.bool false))
      have B6 := (Below.setCell (p := ⟨w.heap.size, 3, none⟩) (Below.setCell (p := ⟨w.heap.size, 2, none⟩) (Below.setCell (p := ⟨w.heap.size, 1, none⟩) (Below.setCell (p := ⟨w.heap.size, 0, none⟩) B5.out (Nat.le_refl _) (.slice (some ⟨w3.heap.size + 1, 0, none⟩) m m)) (Nat.le_refl _) (.slice none 0 0)) (Nat.le_refl _) (.int .i64 (-1))) (Nat.le_refl _) (.bool false))
      refine bodyPost_ret (results_ct rfl _ _ w.heap.size 25 #[.slice (some ⟨w3.heap.size + 1, 0, none⟩) m m, .slice none 0 0, .int .i64 (-1), .bool false] (0, 0) _ rfl E hu25 rfl info25') rfl ?_
      have hzl : (zeros 128).length = 128 := List.length_replicate ..
      have hsec := sectors_C (l := List.replicate m (zeros 128)) R6 (by simp) (by have := HM.out.2; simp; omega) (fun j x v hj hv => by
        have hx : x = zeros 128 := List.eq_of_mem_replicate (List.mem_of_getElem? hj)
        have hv2 : v = .slice (some ⟨w.heap.size + 1, 0, none⟩) 128 128 := List.eq_of_mem_replicate (List.mem_of_getElem? hv)
        subst hx
        rw [hzl]
        refine ⟨_, _, hv2, Nat.le_refl _, ?_⟩
        have h_ := bytes_C0 Z6 (by rw [hzs.out, hzl]; decide)
        rw [hzs.out, hzl] at h_
        exact h_)
      rw [List.length_replicate] at hsec
      refine ⟨⟨_, by rw [HE.out]; rfl, ?_⟩, B6⟩
      rw [HE.out]
      exact ⟨some ⟨w3.heap.size + 1, 0, none⟩, m, none, 0, by simp, by simp, Nat.le_refl _, by simpa using hsec, Kd.C_nil _ _⟩
end Go.Proofs.Ytlnmjgkeiljniaa.Q
