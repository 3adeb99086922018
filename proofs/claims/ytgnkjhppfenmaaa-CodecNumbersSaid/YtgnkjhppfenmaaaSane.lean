/- sane: the chapter's examples hold. -/
import Derived.Test.YtgnkjhppfenmaaaSaneFacts
namespace Go.Proofs.Ytgnkjhppfenmaaa.Q
open Go.RowKit Go.Proofs.YtgnkjhppfenmaaaW.PrintWords Go.Proofs.YtgnkjhppfenmaaaW.PrintLast Go.Proofs.YtgnkjhppfenmaaaW.PrintMore
set_option linter.unusedVariables false
set_option maxHeartbeats 8000000 in
set_option maxRecDepth 100000 in
theorem int_plain (n : Int) (w : World) : Calls Try.prog 17 #[.int .i64 n] w fun e w' => e = .returned (.agg #[.int .i64 1, .int .i64 n, .string ⟨#[]⟩, .slice none 0 0]) ∧ Below w.heap.size w w' := by
  have hu24 := Try.underlying24
  go_enter Try.func17, Try.ntmps17
  go_wp2
  refine bodyPost_ret (results_cell_row rfl _ _ w.heap.size 24 #[.int .i64 1, .int .i64 n, .string ⟨#[]⟩, .slice none 0 0] (0, 0) _ (by rfl) (blk_new w _) hu24 rfl info24') rfl ?_
  exact ⟨rfl, below_alloc (Below.refl _ _) _⟩
set_option maxHeartbeats 8000000 in
set_option maxRecDepth 100000 in
theorem list_plain (A : Option Addr) (n c : Nat) (w : World) : Calls Try.prog 18 #[.slice A n c] w fun e w' => e = .returned (.agg #[.int .i64 3, .int .i64 0, .string ⟨#[]⟩, .slice A n c]) ∧ Below w.heap.size w w' := by
  have hu24 := Try.underlying24
  go_enter Try.func18, Try.ntmps18
  go_wp2
  refine bodyPost_ret (results_cell_row rfl _ _ w.heap.size 24 #[.int .i64 3, .int .i64 0, .string ⟨#[]⟩, .slice A n c] (0, 0) _ (by rfl) (blk_new w _) hu24 rfl info24') rfl ?_
  exact ⟨rfl, below_alloc (Below.refl _ _) _⟩
set_option maxHeartbeats 8000000 in
set_option maxRecDepth 100000 in
theorem text_plain (s : ByteArray) (w : World) : Calls Try.prog 19 #[.string s] w fun e w' => e = .returned (.agg #[.int .i64 2, .int .i64 0, .string s, .slice none 0 0]) ∧ Below w.heap.size w w' := by
  have hu24 := Try.underlying24
  go_enter Try.func19, Try.ntmps19
  go_wp2
  refine bodyPost_ret (results_cell_row rfl _ _ w.heap.size 24 #[.int .i64 2, .int .i64 0, .string s, .slice none 0 0] (0, 0) _ (by rfl) (blk_new w _) hu24 rfl info24') rfl ?_
  exact ⟨rfl, below_alloc (Below.refl _ _) _⟩
/-- the row of the two elements -/
theorem C_two {W : World} {g : Nat} (hb : W.heap[g]? = some (.cells #[.int .i64 1, .int .i64 100, .string ⟨#[]⟩, .slice none 0 0, .int .i64 2, .int .i64 0, .string ⟨#[97, 98]⟩, .slice none 0 0] 24 (0, 0))) : Kd.C k24 W (some ⟨g, 0, none⟩) 2 [sx, sy] := by
  refine ⟨rfl, by decide, fun _ => ⟨_, rfl, fun j p hp => ?_⟩⟩
  match j, hp with
  | 0, hp =>
    cases hp
    refine ⟨_, rfl, k24_mk W sx (A3 := none) (c3 := 0) (Nat.le_refl _) (Kd.C_nil k24 W), fun i u hu => ?_⟩
    match i, hu with
    | 0, hu => cases hu; exact (blk_cell hb 0).trans rfl
    | 1, hu => cases hu; exact (blk_cell hb 1).trans rfl
    | 2, hu => cases hu; exact (blk_cell hb 2).trans rfl
    | 3, hu => cases hu; exact (blk_cell hb 3).trans rfl
    | i + 4, hu => simp [sx] at hu
  | 1, hp =>
    cases hp
    refine ⟨_, rfl, k24_mk W sy (A3 := none) (c3 := 0) (Nat.le_refl _) (Kd.C_nil k24 W), fun i u hu => ?_⟩
    match i, hu with
    | 0, hu => cases hu; exact (blk_cell hb 4).trans rfl
    | 1, hu => cases hu; exact (blk_cell hb 5).trans rfl
    | 2, hu => cases hu; exact (blk_cell hb 6).trans rfl
    | 3, hu => cases hu; exact (blk_cell hb 7).trans rfl
    | i + 4, hu => simp [sy] at hu
  | j + 2, hp => simp at hp
/-- A call in a plain region, guarded or not. -/
theorem goesG_ {P : Program} {ops : Array Oper} {Q : Exit → Act → World → Prop} {w : World} {rest : List Oper} {oi : Oper} {a : Act} (N : Option Tmp) (hd : oi.dst = N) (hw : Region.wanted oi (yielded ops a.tmps) = true) {f : FuncId} {fn : Func} {as_ : Array Operand} {ts : Array TypeId} (hf : P.funcs[f]? = some fn) (hname : (fn.name == "runtime.NumGoroutine") = false) (hb : fn.body.isSome = true) (args : Array Value)
    (hop : oi.op = .call { callee := .value (.func f), args := as_, argTypes := ts }) (hargs : as_.map a.eval = args)
    (h : Calls P f args w fun e w' => ∃ v, e = .returned v ∧ wpList P ops Q rest (a.put N v) w') : wpList P ops Q (oi :: rest) a w := by
  subst hd
  exact wpList_step fun K hK => goes_ hf hname hb args hw rfl hop hargs (h.mono fun e w' hh => by
    obtain ⟨v, he, hk⟩ := hh
    exact ⟨v, he, hK _ _ hk⟩)
set_option maxHeartbeats 8000000 in
set_option maxRecDepth 100000 in
theorem sane_says (w : World) : Calls Try.prog 6 #[] w fun e w' => e = .returned (.bool true) ∧ Below w.heap.size w w' := by
  have hu24 := Try.underlying24
  have HB := Aside0.mk (Below.refl w.heap.size w)
  go_enter Try.func6, Try.ntmps6
  go_upto_region 2 with (first | ((with_reducible refine gate_callee (f := 17) rfl ?_); refine goesL_ (some 15) rfl rfl Try.func17 (by kernel_rfl) rfl #[.int .i64 (-3)] rfl (by (try simp only [List.map_toArray, List.map_cons, List.map_nil]); first | done | rfl) ?_; (refine (int_plain (-3) _).mono ?_); rintro e w1 ⟨rfl, hb⟩; refine ⟨_, rfl, ?_⟩; have HB1 := Aside0.mk (below_step HB.out hb); clear HB hb) | ((with_reducible refine gate_callee (f := 8) rfl ?_); refine goesL_ (some 16) rfl rfl Try.func8 (by kernel_rfl) rfl #[.agg #[.int .i64 1, .int .i64 (-3), .string ⟨#[]⟩, .slice none 0 0]] rfl (by (try simp only [List.map_toArray, List.map_cons, List.map_nil]); first | done | rfl) ?_; (refine (codec_Encode.calls 1 (-3) ⟨#[]⟩ none 0 [] [1, 5] 0 _ (Kd.C_nil _ _) (Nat.le_refl _) se1).mono ?_); rintro e w2 ⟨v1, rfl, hr1, hb⟩; refine ⟨_, rfl, ?_⟩; have HB2 := Aside0.mk (below_step HB1.out hb); have R1 := Aside0.mk (Kd.R_lower hr1 (below_size HB1.out)); clear HB1 hb hr1))
  go_upto_region 3 with (first | ((with_reducible refine gate_callee (f := 17) rfl ?_); refine goesL_ (some 19) rfl rfl Try.func17 (by kernel_rfl) rfl #[.int .i64 100] rfl (by (try simp only [List.map_toArray, List.map_cons, List.map_nil]); first | done | rfl) ?_; (refine (int_plain 100 _).mono ?_); rintro e w3 ⟨rfl, hb⟩; refine ⟨_, rfl, ?_⟩; have HB3 := Aside0.mk (below_step HB2.out hb); have R1a := Aside0.mk (Kd.R_below R1.out hb); clear HB2 hb R1) | ((with_reducible refine gate_callee (f := 19) rfl ?_); refine goesL_ (some 20) rfl rfl Try.func19 (by kernel_rfl) rfl #[.string ⟨#[97, 98]⟩] rfl (by (try simp only [List.map_toArray, List.map_cons, List.map_nil]); first | done | rfl) ?_; (refine (text_plain ⟨#[97, 98]⟩ _).mono ?_); rintro e w4 ⟨rfl, hb⟩; refine ⟨_, rfl, ?_⟩; have HB4 := Aside0.mk (below_step HB3.out hb); have R1 := Aside0.mk (Kd.R_below R1a.out hb); clear HB3 hb R1a) | ((with_reducible refine gate_callee (f := 18) rfl ?_); refine goesL_ (some 22) rfl rfl Try.func18 (by kernel_rfl) rfl #[.slice (some ⟨w4.heap.size, 0, none⟩) 2 2] rfl (by (try simp only [List.map_toArray, List.map_cons, List.map_nil]); first | done | rfl) ?_; (refine (list_plain (some ⟨w4.heap.size, 0, none⟩) 2 2 _).mono ?_); rintro e w5 ⟨rfl, hb⟩; refine ⟨_, rfl, ?_⟩; have HB5 := Aside0.mk (below_step (below_alloc HB4.out _) hb); have BL := Aside0.mk (blk_below (blk_new w4 (.cells #[.int .i64 1, .int .i64 100, .string ⟨#[]⟩, .slice none 0 0, .int .i64 2, .int .i64 0, .string ⟨#[97, 98]⟩, .slice none 0 0] 24)) hb); have R1a := Aside0.mk (Kd.R_below (Kd.R_alloc R1.out _) hb); clear HB4 hb R1))
  have gle := blk_lt BL.out
  have HB := Aside0.mk (below_alloc HB5.out (.cells #[.int .i64 3, .int .i64 0, .string ⟨#[]⟩, .slice (some ⟨w4.heap.size, 0, none⟩) 2 2] 24))
  have BK := Aside0.mk (blk_new w5 (.cells #[.int .i64 3, .int .i64 0, .string ⟨#[]⟩, .slice (some ⟨w4.heap.size, 0, none⟩) 2 2] 24))
  have BL2 := Aside0.mk (blk_alloc BL.out (.cells #[.int .i64 3, .int .i64 0, .string ⟨#[]⟩, .slice (some ⟨w4.heap.size, 0, none⟩) 2 2] 24))
  have R1 := Aside0.mk (Kd.R_alloc R1a.out (.cells #[.int .i64 3, .int .i64 0, .string ⟨#[]⟩, .slice (some ⟨w4.heap.size, 0, none⟩) 2 2] 24))
  clear HB5 BL R1a gle
  generalize (w5.alloc (.cells #[.int .i64 3, .int .i64 0, .string ⟨#[]⟩, .slice (some ⟨w4.heap.size, 0, none⟩) 2 2] 24)) = w6 at *
  generalize w4.heap.size = gl at *
  generalize w5.heap.size = gb at *
  have c0 : w6.cell? ⟨gb, 0, none⟩ = some (.int .i64 3) := (blk_cell BK.out 0).trans rfl
  have c1 : w6.cell? ⟨gb, 1, none⟩ = some (.int .i64 0) := (blk_cell BK.out 1).trans rfl
  have c2 : w6.cell? ⟨gb, 2, none⟩ = some (.string ⟨#[]⟩) := (blk_cell BK.out 2).trans rfl
  have c3 : w6.cell? ⟨gb, 3, none⟩ = some (.slice (some ⟨gl, 0, none⟩) 2 2) := (blk_cell BK.out 3).trans rfl
  go_upto_region 4 with (first | ((with_reducible refine gate_callee (f := 8) rfl ?_); refine goesL_ (some 25) rfl rfl Try.func8 (by kernel_rfl) rfl #[.agg #[.int .i64 3, .int .i64 0, .string ⟨#[]⟩, (.slice (some ⟨gl, 0, none⟩) 2 2)]] rfl (by (try simp only [List.map_toArray, List.map_cons, List.map_nil]); first | done | rfl) ?_; (refine (codec_Encode.calls 3 0 ⟨#[]⟩ (some ⟨gl, 0, none⟩) 2 [sx, sy] [3, 2, 1, 200, 1, 2, 2, 97, 98] 0 _ (C_two BL2.out) (Nat.le_refl _) se2).mono ?_); rintro e w7 ⟨v4, rfl, hr4, hb⟩; refine ⟨_, rfl, ?_⟩; have HB7 := Aside0.mk (below_step HB.out hb); have BK7 := Aside0.mk (blk_below BK.out hb); have BL7 := Aside0.mk (blk_below BL2.out hb); have R17 := Aside0.mk (Kd.R_below R1.out hb); have R4 := Aside0.mk (Kd.R_lower hr4 (below_size HB.out)); clear HB BK BL2 R1 hb hr4 c0 c1 c2 c3))
  obtain ⟨A4, k4, rfl, hk4, hC4⟩ := Kd.R_reads R4.out
  have C4 := Aside0.mk hC4
  clear hC4
  go_upto_region 5 with (first | ((with_reducible refine gate_callee (f := 14) rfl ?_); refine goesL_ (some 30) rfl rfl Try.func14 (by kernel_rfl) rfl #[.slice A4 9 k4] rfl (by (try simp only [List.map_toArray, List.map_cons, List.map_nil]); first | done | rfl) ?_; (refine (codec_Decode.calls A4 k4 [3, 2, 1, 200, 1, 2, 2, 97, 98] 3 0 ⟨#[]⟩ [sx, sy] 0 _ C4.out hk4 sd1).mono ?_); rintro e w8 ⟨v5, rfl, hr5, hb⟩; refine ⟨_, rfl, ?_⟩; have HB8 := Aside0.mk (below_step HB7.out hb); have BK8 := Aside0.mk (blk_below BK7.out hb); have BL8 := Aside0.mk (blk_below BL7.out hb); have R18 := Aside0.mk (Kd.R_below R17.out hb); have R48 := Aside0.mk (Kd.R_below R4.out hb); obtain ⟨A5, k5, rfl, hk5, hC5⟩ := Kd.R_reads hr5; have C5 := Aside0.mk hC5; clear HB7 BK7 BL7 R17 R4 C4 hb hr5 hC5))
  have HB9 := Aside0.mk (below_alloc HB8.out (.cells #[.int .i64 3, .int .i64 0, .string ⟨#[]⟩, .slice A5 2 k5] 24))
  have BK9 := Aside0.mk (blk_alloc BK8.out (.cells #[.int .i64 3, .int .i64 0, .string ⟨#[]⟩, .slice A5 2 k5] 24))
  have BL9 := Aside0.mk (blk_alloc BL8.out (.cells #[.int .i64 3, .int .i64 0, .string ⟨#[]⟩, .slice A5 2 k5] 24))
  have BV9 := Aside0.mk (blk_new w8 (.cells #[.int .i64 3, .int .i64 0, .string ⟨#[]⟩, .slice A5 2 k5] 24))
  have R19 := Aside0.mk (Kd.R_alloc R18.out (.cells #[.int .i64 3, .int .i64 0, .string ⟨#[]⟩, .slice A5 2 k5] 24))
  have R49 := Aside0.mk (Kd.R_alloc R48.out (.cells #[.int .i64 3, .int .i64 0, .string ⟨#[]⟩, .slice A5 2 k5] 24))
  have C59 := Aside0.mk (Kd.C_alloc C5.out (.cells #[.int .i64 3, .int .i64 0, .string ⟨#[]⟩, .slice A5 2 k5] 24))
  clear HB8 BK8 BL8 R18 R48 C5
  generalize w8.alloc (.cells #[.int .i64 3, .int .i64 0, .string ⟨#[]⟩, .slice A5 2 k5] 24) = w9 at *
  generalize w8.heap.size = gv at *
  have c0 : w9.cell? ⟨gb, 0, none⟩ = some (.int .i64 3) := (blk_cell BK9.out 0).trans rfl
  have c1 : w9.cell? ⟨gb, 1, none⟩ = some (.int .i64 0) := (blk_cell BK9.out 1).trans rfl
  have c2 : w9.cell? ⟨gb, 2, none⟩ = some (.string ⟨#[]⟩) := (blk_cell BK9.out 2).trans rfl
  have c3 : w9.cell? ⟨gb, 3, none⟩ = some (.slice (some ⟨gl, 0, none⟩) 2 2) := (blk_cell BK9.out 3).trans rfl
  go_upto_region 6 with (first | ((with_reducible refine gate_callee (f := 10) rfl ?_); refine goesL_ (some 35) rfl rfl Try.func10 (by kernel_rfl) rfl #[.agg #[.int .i64 3, .int .i64 0, .string ⟨#[]⟩, (.slice (some ⟨gl, 0, none⟩) 2 2)]] rfl (by (try simp only [List.map_toArray, List.map_cons, List.map_nil]); first | done | rfl) ?_; (refine (codec_Size.calls 3 0 ⟨#[]⟩ (some ⟨gl, 0, none⟩) 2 [sx, sy] 9 0 _ (C_two BL9.out) (Nat.le_refl _) ss1).mono ?_); rintro e w10 ⟨rfl, hb⟩; refine ⟨_, rfl, ?_⟩; have HB10 := Aside0.mk (below_step HB9.out hb); have BK10 := Aside0.mk (blk_below BK9.out hb); have BL10 := Aside0.mk (blk_below BL9.out hb); have BV10 := Aside0.mk (blk_below BV9.out hb); have R110 := Aside0.mk (Kd.R_below R19.out hb); have R410 := Aside0.mk (Kd.R_below R49.out hb); have C510 := Aside0.mk (Kd.C_below C59.out hb); clear HB9 BK9 BL9 BV9 R19 R49 C59 hb c0 c1 c2 c3))
  have c0 : w10.cell? ⟨gb, 0, none⟩ = some (.int .i64 3) := (blk_cell BK10.out 0).trans rfl
  have c1 : w10.cell? ⟨gb, 1, none⟩ = some (.int .i64 0) := (blk_cell BK10.out 1).trans rfl
  have c2 : w10.cell? ⟨gb, 2, none⟩ = some (.string ⟨#[]⟩) := (blk_cell BK10.out 2).trans rfl
  have c3 : w10.cell? ⟨gb, 3, none⟩ = some (.slice (some ⟨gl, 0, none⟩) 2 2) := (blk_cell BK10.out 3).trans rfl
  have d0 : w10.cell? ⟨gv, 0, none⟩ = some (.int .i64 3) := (blk_cell BV10.out 0).trans rfl
  have d1 : w10.cell? ⟨gv, 1, none⟩ = some (.int .i64 0) := (blk_cell BV10.out 1).trans rfl
  have d2 : w10.cell? ⟨gv, 2, none⟩ = some (.string ⟨#[]⟩) := (blk_cell BV10.out 2).trans rfl
  have d3 : w10.cell? ⟨gv, 3, none⟩ = some (.slice A5 2 k5) := (blk_cell BV10.out 3).trans rfl
  have s1 := own_string (P := Try.prog) Try.underlying27 Try.underlying5 Try.underlying9 (Kd.own_of_R R110.out)
  have s4 : (convert 27 9 (.slice A4 9 k4)).run Try.prog w10 = .ok (.string (strOfNums [3, 2, 1, 200, 1, 2, 2, 97, 98])) w10 := own_string (P := Try.prog) Try.underlying27 Try.underlying5 Try.underlying9 (Kd.own_of_R R410.out)
  have q1 : strOfNums [1, 5] = ⟨#[1, 5]⟩ := rfl
  have q4 : strOfNums [3, 2, 1, 200, 1, 2, 2, 97, 98] = ⟨#[3, 2, 1, 200, 1, 2, 2, 97, 98]⟩ := rfl
  rw [q1] at s1
  rw [q4] at s4
  go_upto_region 8 with (first | ((with_reducible refine gate_callee (f := 20) rfl ?_); refine goesG_ (some 61) rfl (by rfl) Try.func20 (by kernel_rfl) rfl #[.agg #[.int .i64 3, .int .i64 0, .string ⟨#[]⟩, (.slice (some ⟨gl, 0, none⟩) 2 2)], .agg #[.int .i64 3, .int .i64 0, .string ⟨#[]⟩, .slice A5 2 k5]] rfl (by (try simp only [List.map_toArray, List.map_cons, List.map_nil]); first | done | rfl) ?_; (refine (codec_Same.calls 3 0 ⟨#[]⟩ (some ⟨gl, 0, none⟩) 2 [sx, sy] 3 0 ⟨#[]⟩ A5 k5 [sx, sy] true _ (C_two BL10.out) (Nat.le_refl _) C510.out hk5 sq1).mono ?_); rintro e w11 ⟨rfl, hb⟩; refine ⟨_, rfl, ?_⟩; have HB11 := Aside0.mk (below_step HB10.out hb); clear hb HB10) | ((with_reducible refine gate_callee (f := 19) rfl ?_); refine goesG_ (some 73) rfl (by rfl) Try.func19 (by kernel_rfl) rfl #[.string ⟨#[]⟩] rfl (by (try simp only [List.map_toArray, List.map_cons, List.map_nil]); first | done | rfl) ?_; (refine (text_plain ⟨#[]⟩ _).mono ?_); rintro e w12 ⟨rfl, hb⟩; refine ⟨_, rfl, ?_⟩; have HB12 := Aside0.mk (below_step HB11.out hb); clear hb HB11) | ((with_reducible refine gate_callee (f := 18) rfl ?_); refine goesG_ (some 74) rfl (by rfl) Try.func18 (by kernel_rfl) rfl #[.slice none 0 0] rfl (by (try simp only [List.map_toArray, List.map_cons, List.map_nil]); first | done | rfl) ?_; (refine (list_plain none 0 0 _).mono ?_); rintro e w13 ⟨rfl, hb⟩; refine ⟨_, rfl, ?_⟩; have HB13 := Aside0.mk (below_step HB12.out hb); clear hb HB12) | ((with_reducible refine gate_callee (f := 20) rfl ?_); refine goesG_ (some 75) rfl (by rfl) Try.func20 (by kernel_rfl) rfl #[.agg #[.int .i64 2, .int .i64 0, .string ⟨#[]⟩, .slice none 0 0], .agg #[.int .i64 3, .int .i64 0, .string ⟨#[]⟩, .slice none 0 0]] rfl (by (try simp only [List.map_toArray, List.map_cons, List.map_nil]); first | done | rfl) ?_; (refine (codec_Same.calls 2 0 ⟨#[]⟩ none 0 [] 3 0 ⟨#[]⟩ none 0 [] false _ (Kd.C_nil _ _) (Nat.le_refl _) (Kd.C_nil _ _) (Nat.le_refl _) sq2).mono ?_); rintro e w14 ⟨rfl, hb⟩; refine ⟨_, rfl, ?_⟩; have HB14 := Aside0.mk (below_step HB13.out hb); clear hb HB13))
  have hkb := fun (s : ByteArray) (W : World) => print_bytes (P := Try.prog) 9 27 5 Try.underlying9 Try.underlying27 Try.underlying5 s W
  clear BK10 BL10 BV10 R110 R410 C510 hk5 hk4 c0 c1 c2 c3 d0 d1 d2 d3 s1 s4 q1 q4
  have BS := Aside0.mk (blk_new w14 (.cells #[.string ⟨#[]⟩, .string ⟨#[1, 128, 0]⟩, .string ⟨#[1, 5, 0]⟩, .string ⟨#[2, 3, 97]⟩] 9))
  have HB15 := Aside0.mk (below_alloc HB14.out (.cells #[.string ⟨#[]⟩, .string ⟨#[1, 128, 0]⟩, .string ⟨#[1, 5, 0]⟩, .string ⟨#[2, 3, 97]⟩] 9))
  go_wp2
  generalize w14.alloc (.cells #[.string ⟨#[]⟩, .string ⟨#[1, 128, 0]⟩, .string ⟨#[1, 5, 0]⟩, .string ⟨#[2, 3, 97]⟩] 9) = w15 at *
  generalize w14.heap.size = gs at *
  clear HB14
  go_loopg [79] 4 (fun kq v79 w' => ∃ i : Nat, v79 = .int .i64 (i : Int) ∧ Aside0 (kq + i = 4) ∧ Aside0 (Below w.heap.size w w') ∧ Aside0 (w'.heap[gs]? = some (.cells #[.string ⟨#[]⟩, .string ⟨#[1, 128, 0]⟩, .string ⟨#[1, 5, 0]⟩, .string ⟨#[2, 3, 97]⟩] 9 (0, 0))))
  case atStart => exact ⟨0, rfl, ⟨by omega⟩, HB15, BS⟩
  case round =>
    clear BS HB15
    obtain ⟨i, rfl, HI, HB, BS⟩ := hrel
    by_cases hi : i < 4
    · have hi4 : i = 0 ∨ i = 1 ∨ i = 2 ∨ i = 3 := by omega
      clear hi
      rcases hi4 with rfl | rfl | rfl | rfl
      · have cs : wr.cell? ⟨gs, 0, none⟩ = some (.string ⟨#[]⟩) := (blk_cell BS.out 0).trans rfl
        have C0 := Aside0.mk (show (Kd.int .u8).C (Lib.bytesWorld wr 5 ⟨#[]⟩) (some ⟨wr.heap.size, 0, none⟩) ([] : List Int).length [] from Kd.C_of_reads (enc := Value.int .u8) (d := (0 : Int)) (h1 := fun _ => rfl) (bytes_reads wr 5 ⟨#[]⟩ (by decide)))
        have G0 := Aside0.mk (show ([] : List Int).length ≤ grownCap wr 0 0 5 from grownCap_ge wr 0 0 5)
        have HBb := Aside0.mk (bytes_below HB.out (below_size HB.out) 5 ⟨#[]⟩)
        have BSb := Aside0.mk (blk_below BS.out (bytes_below (Below.refl _ wr) (Nat.le_refl _) 5 ⟨#[]⟩))
        go_wp2_with (((with_reducible refine gate_callee (f := 14) rfl ?_); refine goesL_ (some 86) rfl rfl Try.func14 (by kernel_rfl) rfl #[.slice (some ⟨wr.heap.size, 0, none⟩) 0 (grownCap wr 0 0 5)] rfl (by (try simp only [List.map_toArray, List.map_cons, List.map_nil]); first | done | rfl) ?_; (refine (codec_Decode.calls (some ⟨wr.heap.size, 0, none⟩) (grownCap wr 0 0 5) [] 0 0 ⟨#[]⟩ [] 10 _ C0.out G0.out sd2).mono ?_); rintro e w16 ⟨v5, rfl, hr5, hb⟩; refine ⟨_, rfl, ?_⟩; obtain ⟨A5, k5, rfl, hk5, hC5⟩ := Kd.R_reads hr5; have HB16 := Aside0.mk (below_step HBb.out hb); have BS16 := Aside0.mk (blk_below BSb.out hb); clear hb hr5 hC5 hk5))
        go_roundg (3 - 0)
        case measure => have := HI.out; omega
        case rel => exact ⟨0 + 1, rfl, ⟨by omega⟩, ⟨below_alloc HB16.out _⟩, ⟨blk_alloc BS16.out _⟩⟩
      · have cs : wr.cell? ⟨gs, 1, none⟩ = some (.string ⟨#[1, 128, 0]⟩) := (blk_cell BS.out 1).trans rfl
        have C0 := Aside0.mk (show (Kd.int .u8).C (Lib.bytesWorld wr 5 ⟨#[1, 128, 0]⟩) (some ⟨wr.heap.size, 0, none⟩) ([1, 128, 0] : List Int).length [1, 128, 0] from Kd.C_of_reads (enc := Value.int .u8) (d := (0 : Int)) (h1 := fun _ => rfl) (bytes_reads wr 5 ⟨#[1, 128, 0]⟩ (by decide)))
        have G0 := Aside0.mk (show ([1, 128, 0] : List Int).length ≤ grownCap wr 3 0 5 from grownCap_ge wr 3 0 5)
        have HBb := Aside0.mk (bytes_below HB.out (below_size HB.out) 5 ⟨#[1, 128, 0]⟩)
        have BSb := Aside0.mk (blk_below BS.out (bytes_below (Below.refl _ wr) (Nat.le_refl _) 5 ⟨#[1, 128, 0]⟩))
        go_wp2_with (((with_reducible refine gate_callee (f := 14) rfl ?_); refine goesL_ (some 86) rfl rfl Try.func14 (by kernel_rfl) rfl #[.slice (some ⟨wr.heap.size, 0, none⟩) 3 (grownCap wr 3 0 5)] rfl (by (try simp only [List.map_toArray, List.map_cons, List.map_nil]); first | done | rfl) ?_; (refine (codec_Decode.calls (some ⟨wr.heap.size, 0, none⟩) (grownCap wr 3 0 5) [1, 128, 0] 0 0 ⟨#[]⟩ [] 10 _ C0.out G0.out sd3).mono ?_); rintro e w16 ⟨v5, rfl, hr5, hb⟩; refine ⟨_, rfl, ?_⟩; obtain ⟨A5, k5, rfl, hk5, hC5⟩ := Kd.R_reads hr5; have HB16 := Aside0.mk (below_step HBb.out hb); have BS16 := Aside0.mk (blk_below BSb.out hb); clear hb hr5 hC5 hk5))
        go_roundg (3 - 1)
        case measure => have := HI.out; omega
        case rel => exact ⟨1 + 1, rfl, ⟨by omega⟩, ⟨below_alloc HB16.out _⟩, ⟨blk_alloc BS16.out _⟩⟩
      · have cs : wr.cell? ⟨gs, 2, none⟩ = some (.string ⟨#[1, 5, 0]⟩) := (blk_cell BS.out 2).trans rfl
        have C0 := Aside0.mk (show (Kd.int .u8).C (Lib.bytesWorld wr 5 ⟨#[1, 5, 0]⟩) (some ⟨wr.heap.size, 0, none⟩) ([1, 5, 0] : List Int).length [1, 5, 0] from Kd.C_of_reads (enc := Value.int .u8) (d := (0 : Int)) (h1 := fun _ => rfl) (bytes_reads wr 5 ⟨#[1, 5, 0]⟩ (by decide)))
        have G0 := Aside0.mk (show ([1, 5, 0] : List Int).length ≤ grownCap wr 3 0 5 from grownCap_ge wr 3 0 5)
        have HBb := Aside0.mk (bytes_below HB.out (below_size HB.out) 5 ⟨#[1, 5, 0]⟩)
        have BSb := Aside0.mk (blk_below BS.out (bytes_below (Below.refl _ wr) (Nat.le_refl _) 5 ⟨#[1, 5, 0]⟩))
        go_wp2_with (((with_reducible refine gate_callee (f := 14) rfl ?_); refine goesL_ (some 86) rfl rfl Try.func14 (by kernel_rfl) rfl #[.slice (some ⟨wr.heap.size, 0, none⟩) 3 (grownCap wr 3 0 5)] rfl (by (try simp only [List.map_toArray, List.map_cons, List.map_nil]); first | done | rfl) ?_; (refine (codec_Decode.calls (some ⟨wr.heap.size, 0, none⟩) (grownCap wr 3 0 5) [1, 5, 0] 0 0 ⟨#[]⟩ [] 10 _ C0.out G0.out sd4).mono ?_); rintro e w16 ⟨v5, rfl, hr5, hb⟩; refine ⟨_, rfl, ?_⟩; obtain ⟨A5, k5, rfl, hk5, hC5⟩ := Kd.R_reads hr5; have HB16 := Aside0.mk (below_step HBb.out hb); have BS16 := Aside0.mk (blk_below BSb.out hb); clear hb hr5 hC5 hk5))
        go_roundg (3 - 2)
        case measure => have := HI.out; omega
        case rel => exact ⟨2 + 1, rfl, ⟨by omega⟩, ⟨below_alloc HB16.out _⟩, ⟨blk_alloc BS16.out _⟩⟩
      · have cs : wr.cell? ⟨gs, 3, none⟩ = some (.string ⟨#[2, 3, 97]⟩) := (blk_cell BS.out 3).trans rfl
        have C0 := Aside0.mk (show (Kd.int .u8).C (Lib.bytesWorld wr 5 ⟨#[2, 3, 97]⟩) (some ⟨wr.heap.size, 0, none⟩) ([2, 3, 97] : List Int).length [2, 3, 97] from Kd.C_of_reads (enc := Value.int .u8) (d := (0 : Int)) (h1 := fun _ => rfl) (bytes_reads wr 5 ⟨#[2, 3, 97]⟩ (by decide)))
        have G0 := Aside0.mk (show ([2, 3, 97] : List Int).length ≤ grownCap wr 3 0 5 from grownCap_ge wr 3 0 5)
        have HBb := Aside0.mk (bytes_below HB.out (below_size HB.out) 5 ⟨#[2, 3, 97]⟩)
        have BSb := Aside0.mk (blk_below BS.out (bytes_below (Below.refl _ wr) (Nat.le_refl _) 5 ⟨#[2, 3, 97]⟩))
        go_wp2_with (((with_reducible refine gate_callee (f := 14) rfl ?_); refine goesL_ (some 86) rfl rfl Try.func14 (by kernel_rfl) rfl #[.slice (some ⟨wr.heap.size, 0, none⟩) 3 (grownCap wr 3 0 5)] rfl (by (try simp only [List.map_toArray, List.map_cons, List.map_nil]); first | done | rfl) ?_; (refine (codec_Decode.calls (some ⟨wr.heap.size, 0, none⟩) (grownCap wr 3 0 5) [2, 3, 97] 0 0 ⟨#[]⟩ [] 10 _ C0.out G0.out sd5).mono ?_); rintro e w16 ⟨v5, rfl, hr5, hb⟩; refine ⟨_, rfl, ?_⟩; obtain ⟨A5, k5, rfl, hk5, hC5⟩ := Kd.R_reads hr5; have HB16 := Aside0.mk (below_step HBb.out hb); have BS16 := Aside0.mk (blk_below BSb.out hb); clear hb hr5 hC5 hk5))
        go_roundg (3 - 3)
        case measure => have := HI.out; omega
        case rel => exact ⟨3 + 1, rfl, ⟨by omega⟩, ⟨below_alloc HB16.out _⟩, ⟨blk_alloc BS16.out _⟩⟩
    · have hi5 : i = 4 := by have := HI.out; omega
      subst hi5
      clear hi
      go_wp2_with (((with_reducible refine gate_callee (f := 12) rfl ?_); refine goesL_ (some 93) rfl rfl Try.func12 (by kernel_rfl) rfl #[.agg #[.int .i64 0, .int .i64 0, .string ⟨#[]⟩, .slice none 0 0]] rfl (by (try simp only [List.map_toArray, List.map_cons, List.map_nil]); first | done | rfl) ?_; (refine (codec_Check.calls 0 0 ⟨#[]⟩ none 0 [] 1 _ (Kd.C_nil _ _) (Nat.le_refl _) sc1).mono ?_); rintro e w17 ⟨rfl, hb⟩; refine ⟨_, rfl, ?_⟩; have HB17 := Aside0.mk (below_step HB.out hb); clear hb))
      go_ret
      exact ⟨rfl, HB17.out⟩
end Go.Proofs.Ytgnkjhppfenmaaa.Q
