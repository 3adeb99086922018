/- The reader of codec: number. -/
import Derived.Test.YtgnkjhppfenmaaaEcodecReader
namespace Go.Proofs.Ytgnkjhppfenmaaa.Q
open Go.RowKit Go.Proofs.YtgnkjhppfenmaaaW.PrintWords Go.Proofs.YtgnkjhppfenmaaaW.PrintLast Go.Proofs.YtgnkjhppfenmaaaW.PrintMore
/-- how the reading of a number ends -/
def NumEnds (w0 w' : World) (g : Nat) (r : Option (Int × List Int)) (e : Ending) : Prop := match r with
  | some (u, ys) => e = .returned (.int .u64 u) ∧ RD w0 w' g ys
  | none => e = .panicked codeErr
set_option maxHeartbeats 8000000 in
set_option maxRecDepth 100000 in
theorem number_ends {w0 w : World} {g : Nat} {xs : List Int} (hB : Below w0.heap.size w0 w) (hg : w0.heap.size ≤ g) (h : RD w0 w g xs) (hx : areBytes xs = true) :
    Calls Try.prog 42 #[.pointer (some ⟨g, 0, none⟩)] w fun e w' => NumEnds w0 w' g (rdNum xs) e ∧ RK w0 w w' g := by
  have HB := Aside0.mk hB
  have HG := Aside0.mk hg
  have HR := Aside0.mk h
  have HX := Aside0.mk hx
  have HK := Aside0.mk (RK.refl hB g)
  clear hB hg h hx
  go_enter Try.func42, Try.ntmps42
  go_wp2
  go_loopg [2, 3] xs.length (fun kq v2 v3 w' => ∃ (i : Nat) (u : Int) (ys : List Int), v2 = .int .u64 u ∧ v3 = .int .i64 (i : Int) ∧ Aside0 (kq = ys.length) ∧ Aside0 (i ≤ 9 ∧ 0 ≤ u ∧ u < 2 ^ (7 * i)) ∧ Aside0 (rdNumA i u ys = rdNum xs) ∧ Aside0 (areBytes ys = true) ∧ Aside0 (RD w0 w' g ys) ∧ Aside0 (RK w0 w w' g))
  case atStart => exact ⟨0, 0, xs, rfl, rfl, ⟨rfl⟩, ⟨by decide⟩, ⟨rfl⟩, HX, HR, HK⟩
  case round =>
    obtain ⟨i, u, ys, rfl, rfl, HI, HU, HE, HY, HD, HW⟩ := hrel
    cases ys with
    | nil =>
      go_wp2_with (go_at_call 40; (refine (take_none HW.out.b HD.out).mono ?_); rintro e w1 ⟨rfl, hk⟩)
      have hr : rdNum xs = none := by rw [← HE.out, rdNumA]
      exact ⟨rfl, by rw [hr]; exact rfl, HW.out.trans hk⟩
    | cons c ys =>
      have hc := bytes_head HY.out
      have hc0 := eq_true hc.1
      have hi9 : (i : Int) ≤ 9 := by have := HU.out.1; omega
      have hi0 : (0 : Int) ≤ (i : Int) := by omega
      by_cases hi : i = 0
      · have e1 : ((i : Int) == 0) = true := by simp [hi]
        have e3 : decide ((i : Int) < 9) = true := decide_eq_true (by omega)
        have hok : Aside0 (okAt i c = true) := ⟨by unfold okAt; simp [hi]⟩
        have h9 : i < 9 ∨ c ≤ 1 := .inl (by omega)
        have h9' := h9
        clear hi
        have hE := Aside0.mk (acc_eq i u c HU.out.1 HU.out.2.1 HU.out.2.2 hc.1 hc.2 h9)
        have hE2 := Aside0.mk (acc_bound i u c HU.out.2.1 HU.out.2.2)
        unfold accG at hE
        clear h9
        by_cases h128 : c < 128
        · have h128b : decide (c < 128) = true := decide_eq_true h128
          have hr : Aside0 (rdNum xs = some (u + c % 128 * 2 ^ (7 * i), ys)) := ⟨by rw [← HE.out, rdNumA, if_pos hok.out, if_pos h128]⟩
          clear h128 hc
          go_wp2_with (first | (go_at_call 40; (refine (take_byte HW.out.b HG.out HD.out).mono ?_); rintro e w1 ⟨⟨ad, rfl, hz⟩, hd, hk⟩; have HD1 := Aside0.mk hd; have HK1 := Aside0.mk (HW.out.trans hk); clear hd hk) | (go_at_call 29; (refine (want_ok _ _).mono ?_); rintro e w2 ⟨rfl, rfl⟩))
          go_ret
          exact ⟨by rw [hr.out]; exact ⟨by rw [← hE.out]; rfl, HD1.out⟩, HK1.out⟩
        · have h128b : decide (c < 128) = false := decide_eq_false h128
          have hr : Aside0 (rdNumA (i + 1) (u + c % 128 * 2 ^ (7 * i)) ys = rdNum xs) := ⟨by rw [← HE.out, rdNumA, if_pos hok.out, if_neg h128]⟩
          have hy := Aside0.mk (bytes_tail HY.out)
          have h8 : Aside0 (i + 1 ≤ 9) := ⟨by have := HU.out.1; rcases h9' with h | h <;> omega⟩
          clear h128 hc h9'
          go_wp2_with (first | (go_at_call 40; (refine (take_byte HW.out.b HG.out HD.out).mono ?_); rintro e w1 ⟨⟨ad, rfl, hz⟩, hd, hk⟩; have HD1 := Aside0.mk hd; have HK1 := Aside0.mk (HW.out.trans hk); clear hd hk) | (go_at_call 29; (refine (want_ok _ _).mono ?_); rintro e w2 ⟨rfl, rfl⟩))
          go_roundg ys.length
          case measure => have := HI.out; simp at this; omega
          case rel => exact ⟨i + 1, u + c % 128 * 2 ^ (7 * i), ys, by rw [← hE.out], by go_num, ⟨rfl⟩, ⟨⟨h8.out, hE2.out⟩⟩, hr, hy, HD1, HK1⟩
      · have e1 : ((i : Int) == 0) = false := by simp [hi]
        by_cases hc2 : c = 0
        · have e2 : (c != 0) = false := by simp [hc2]
          have e2' : (c == 0) = true := by simp [hc2]
          have hr : rdNum xs = none := by rw [← HE.out, rdNumA, if_neg]; unfold okAt; simp [hi, hc2]
          have hr' := Aside0.mk hr
          clear hi hc2 hr hc
          go_wp2_with (first | (go_at_call 40; (refine (take_byte HW.out.b HG.out HD.out).mono ?_); rintro e w1 ⟨⟨ad, rfl, hz⟩, hd, hk⟩; have HD1 := Aside0.mk hd; have HK1 := Aside0.mk (HW.out.trans hk); clear hd hk) | (go_at_call 29; (refine (want_not _ _).mono ?_); rintro e w2 ⟨rfl, rfl⟩))
          exact ⟨rfl, by rw [hr'.out]; exact rfl, HK1.out⟩
        · have e2 : (c != 0) = true := by simp [hc2]
          have e2' : (c == 0) = false := by simp [hc2]
          by_cases hi8 : i < 9
          · have e3 : decide ((i : Int) < 9) = true := decide_eq_true (by omega)
            have hok : Aside0 (okAt i c = true) := ⟨by unfold okAt; simp [hc2, hi8]⟩
            have h9 : i < 9 ∨ c ≤ 1 := .inl hi8
            have h9' := h9
            clear hi hc2 hi8
            have hE := Aside0.mk (acc_eq i u c HU.out.1 HU.out.2.1 HU.out.2.2 hc.1 hc.2 h9)
            have hE2 := Aside0.mk (acc_bound i u c HU.out.2.1 HU.out.2.2)
            unfold accG at hE
            clear h9
            by_cases h128 : c < 128
            · have h128b : decide (c < 128) = true := decide_eq_true h128
              have hr : Aside0 (rdNum xs = some (u + c % 128 * 2 ^ (7 * i), ys)) := ⟨by rw [← HE.out, rdNumA, if_pos hok.out, if_pos h128]⟩
              clear h128 hc
              go_wp2_with (first | (go_at_call 40; (refine (take_byte HW.out.b HG.out HD.out).mono ?_); rintro e w1 ⟨⟨ad, rfl, hz⟩, hd, hk⟩; have HD1 := Aside0.mk hd; have HK1 := Aside0.mk (HW.out.trans hk); clear hd hk) | (go_at_call 29; (refine (want_ok _ _).mono ?_); rintro e w2 ⟨rfl, rfl⟩))
              go_ret
              exact ⟨by rw [hr.out]; exact ⟨by rw [← hE.out]; rfl, HD1.out⟩, HK1.out⟩
            · have h128b : decide (c < 128) = false := decide_eq_false h128
              have hr : Aside0 (rdNumA (i + 1) (u + c % 128 * 2 ^ (7 * i)) ys = rdNum xs) := ⟨by rw [← HE.out, rdNumA, if_pos hok.out, if_neg h128]⟩
              have hy := Aside0.mk (bytes_tail HY.out)
              have h8 : Aside0 (i + 1 ≤ 9) := ⟨by have := HU.out.1; rcases h9' with h | h <;> omega⟩
              clear h128 hc h9'
              go_wp2_with (first | (go_at_call 40; (refine (take_byte HW.out.b HG.out HD.out).mono ?_); rintro e w1 ⟨⟨ad, rfl, hz⟩, hd, hk⟩; have HD1 := Aside0.mk hd; have HK1 := Aside0.mk (HW.out.trans hk); clear hd hk) | (go_at_call 29; (refine (want_ok _ _).mono ?_); rintro e w2 ⟨rfl, rfl⟩))
              go_roundg ys.length
              case measure => have := HI.out; simp at this; omega
              case rel => exact ⟨i + 1, u + c % 128 * 2 ^ (7 * i), ys, by rw [← hE.out], by go_num, ⟨rfl⟩, ⟨⟨h8.out, hE2.out⟩⟩, hr, hy, HD1, HK1⟩
          · have e3 : decide ((i : Int) < 9) = false := decide_eq_false (by omega)
            by_cases hc1 : c ≤ 1
            · have e4 : decide (c ≤ 1) = true := decide_eq_true hc1
              have hok : Aside0 (okAt i c = true) := ⟨by unfold okAt; simp [hc2, hc1]⟩
              have h9 : i < 9 ∨ c ≤ 1 := .inr hc1
              have h9' := h9
              clear hi hc2 hi8 hc1
              have hE := Aside0.mk (acc_eq i u c HU.out.1 HU.out.2.1 HU.out.2.2 hc.1 hc.2 h9)
              have hE2 := Aside0.mk (acc_bound i u c HU.out.2.1 HU.out.2.2)
              unfold accG at hE
              clear h9
              by_cases h128 : c < 128
              · have h128b : decide (c < 128) = true := decide_eq_true h128
                have hr : Aside0 (rdNum xs = some (u + c % 128 * 2 ^ (7 * i), ys)) := ⟨by rw [← HE.out, rdNumA, if_pos hok.out, if_pos h128]⟩
                clear h128 hc
                go_wp2_with (first | (go_at_call 40; (refine (take_byte HW.out.b HG.out HD.out).mono ?_); rintro e w1 ⟨⟨ad, rfl, hz⟩, hd, hk⟩; have HD1 := Aside0.mk hd; have HK1 := Aside0.mk (HW.out.trans hk); clear hd hk) | (go_at_call 29; (refine (want_ok _ _).mono ?_); rintro e w2 ⟨rfl, rfl⟩))
                go_ret
                exact ⟨by rw [hr.out]; exact ⟨by rw [← hE.out]; rfl, HD1.out⟩, HK1.out⟩
              · have h128b : decide (c < 128) = false := decide_eq_false h128
                have hr : Aside0 (rdNumA (i + 1) (u + c % 128 * 2 ^ (7 * i)) ys = rdNum xs) := ⟨by rw [← HE.out, rdNumA, if_pos hok.out, if_neg h128]⟩
                have hy := Aside0.mk (bytes_tail HY.out)
                have h8 : Aside0 (i + 1 ≤ 9) := ⟨by have := HU.out.1; rcases h9' with h | h <;> omega⟩
                clear h128 hc h9'
                go_wp2_with (first | (go_at_call 40; (refine (take_byte HW.out.b HG.out HD.out).mono ?_); rintro e w1 ⟨⟨ad, rfl, hz⟩, hd, hk⟩; have HD1 := Aside0.mk hd; have HK1 := Aside0.mk (HW.out.trans hk); clear hd hk) | (go_at_call 29; (refine (want_ok _ _).mono ?_); rintro e w2 ⟨rfl, rfl⟩))
                go_roundg ys.length
                case measure => have := HI.out; simp at this; omega
                case rel => exact ⟨i + 1, u + c % 128 * 2 ^ (7 * i), ys, by rw [← hE.out], by go_num, ⟨rfl⟩, ⟨⟨h8.out, hE2.out⟩⟩, hr, hy, HD1, HK1⟩
            · have e4 : decide (c ≤ 1) = false := decide_eq_false hc1
              have hr : rdNum xs = none := by rw [← HE.out, rdNumA, if_neg]; unfold okAt; simp [hi8, hc1]
              have hr' := Aside0.mk hr
              clear hi hc2 hr hc hi8 hc1
              go_wp2_with (first | (go_at_call 40; (refine (take_byte HW.out.b HG.out HD.out).mono ?_); rintro e w1 ⟨⟨ad, rfl, hz⟩, hd, hk⟩; have HD1 := Aside0.mk hd; have HK1 := Aside0.mk (HW.out.trans hk); clear hd hk) | (go_at_call 29; (refine (want_not _ _).mono ?_); rintro e w2 ⟨rfl, rfl⟩))
              exact ⟨rfl, by rw [hr'.out]; exact rfl, HK1.out⟩
end Go.Proofs.Ytgnkjhppfenmaaa.Q
