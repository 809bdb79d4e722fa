/- The reference account: sums, interest, release. -/
import Derived.Test.YtodnnfdglkidgaaM
import Derived.Test.YtodnnfdglkidgaaPlainD
set_option linter.unusedVariables false
namespace Go.Proofs.Ytodnnfdglkidgaa
open Go.RowKit Go.Shelf

abbrev RAcc := Acc 70 67

set_option maxHeartbeats 400000 in
theorem rsum_any (b g cap : Nat) (r v : Int) (ms : List (Int × Int)) (cl : Bool) (hgd : Good ms) (w : World) (hA : RAcc w b g cap r v ms cl) :
    Calls Try.prog 38 #[.pointer (some ⟨b, 0, none⟩)] w fun e w' => e = .returned (.int .i64 (balTo ms ms.length)) ∧ w = w' := by
  have c2 := hA.c2
  have HD := Lib.hid hA.unit
  have HG := Lib.hid hgd
  have hl := hgd.len2
  clear hgd hA
  go_enter Try.func38, Try.ntmps38
  go_wp2_with fail
  go_loop [3, 4] (fun s j => ∃ n : Nat, n ≤ ms.length ∧ j = .int .i64 n ∧ s = .int .i64 (balTo ms n)) (fun _ j => ms.length - (intOf j).toNat)
  case atStart => exact ⟨0, Nat.zero_le _, rfl, by rw [balTo_zero]⟩
  case round =>
    obtain ⟨n, hn, rfl, rfl⟩ := hrel
    by_cases hnl : n < ms.length
    · have hx2 := HG.out.bal (n + 1) (by omega)
      obtain ⟨y1, y2⟩ := HG.out.bal n (by omega)
      obtain ⟨y5, y6⟩ := HG.out.unit n hnl
      have hS := Lib.hid (balTo_succ ms n hnl)
      rw [hS.out] at hx2
      obtain ⟨y3, y4⟩ := hx2
      have hm1 := HD.out n hnl
      go_wp2_with fail
      go_round
      case rel => exact ⟨n + 1, by omega, by simp, by rw [hS.out]⟩
      case measure => simp [intOf]; omega
    · obtain rfl : n = ms.length := by omega
      go_wp2_with fail
      go_ret
      exact ⟨rfl, rfl⟩

set_option maxHeartbeats 400000 in
theorem ron_any (b g cap : Nat) (r v : Int) (ms : List (Int × Int)) (cl : Bool) (hgd : Good ms) (x : Int) (w : World) (hA : RAcc w b g cap r v ms cl) :
    Calls Try.prog 40 #[.pointer (some ⟨b, 0, none⟩), .int .i64 x] w fun e w' => e = .returned (.int .i64 (onD ms x ms.length)) ∧ w = w' := by
  have c2 := hA.c2
  have HD := Lib.hid hA.unit
  have HY := Lib.hid hA.day
  have HG := Lib.hid hgd
  have hl := hgd.len2
  clear hgd hA
  go_enter Try.func40, Try.ntmps40
  go_wp2_with fail
  go_loop [5, 6] (fun s j => ∃ n : Nat, n ≤ ms.length ∧ j = .int .i64 n ∧ s = .int .i64 (onD ms x n)) (fun _ j => ms.length - (intOf j).toNat)
  case atStart => exact ⟨0, Nat.zero_le _, rfl, rfl⟩
  case round =>
    obtain ⟨n, hn, rfl, rfl⟩ := hrel
    by_cases hnl : n < ms.length
    · have hx2 := onD_bd HG.out x (n + 1) (by omega)
      obtain ⟨y1, y2⟩ := onD_bd HG.out x n (by omega)
      obtain ⟨y5, y6⟩ := HG.out.unit n hnl
      have hm1 := HD.out n hnl
      have hm2 := HY.out n hnl
      by_cases hx : dayAt ms n ≤ x
      · have hS : Hid (onD ms x (n + 1) = onD ms x n + unitAt ms n) := by unfold Hid; rw [onD, if_pos hx]
        rw [hS.out] at hx2
        obtain ⟨y3, y4⟩ := hx2
        go_wp2_with fail
        go_round
        case rel => exact ⟨n + 1, by omega, by simp, by rw [hS.out]⟩
        case measure => simp [intOf]; omega
      · have hS : Hid (onD ms x (n + 1) = onD ms x n) := by unfold Hid; rw [onD, if_neg hx]; omega
        clear hx2
        go_wp2_with fail
        go_round
        case rel => exact ⟨n + 1, by omega, by simp, by rw [hS.out]⟩
        case measure => simp [intOf]; omega
    · obtain rfl : n = ms.length := by omega
      go_wp2_with fail
      go_ret
      exact ⟨rfl, rfl⟩

set_option maxHeartbeats 400000 in
theorem rlast_any (b g cap : Nat) (r v : Int) (ms : List (Int × Int)) (cl : Bool) (hgd : Good ms) (w : World) (hA : RAcc w b g cap r v ms cl) :
    Calls Try.prog 39 #[.pointer (some ⟨b, 0, none⟩)] w fun e w' => e = .returned (.int .i64 (dayAt ms (ms.length - 1))) ∧ Below w.heap.size w w' := by
  have hl1 := hgd.len1
  have hl2 := hgd.len2
  have hc2 := hA.c2
  have hd := hA.day (ms.length - 1) (by omega)
  obtain ⟨k, hk⟩ : ∃ k, ms.length = k + 1 := ⟨ms.length - 1, by omega⟩
  have hX : Hid (dayAt ms (ms.length - 1) = dayAt ms k) := by unfold Hid; rw [hk]; rfl
  rw [hk] at hc2 hd hl2
  simp only [Nat.add_sub_cancel] at hd
  clear hk hl1 hA hgd
  go_enter Try.func39, Try.ntmps39
  go_wp2_with fail
  go_quiet (fail)
  go_wp2
  go_ret
  exact ⟨ret_int hX.out.symm, below_drewN (Below.refl _ _) _⟩

set_option maxHeartbeats 400000 in
theorem rDay_yes (d : Int) (w : World) (h1 : 0 ≤ d) (h2 : d ≤ 100000) : Calls Try.prog 34 #[.int .i64 d] w fun e w' => e = .returned (.bool true) ∧ w = w' := by
  go_enter Try.func34, Try.ntmps34
  go_wp2
  go_ret
  exact ⟨rfl, rfl⟩
set_option maxHeartbeats 400000 in
theorem rDay_no (d : Int) (w : World) (h : d < 0 ∨ 100000 < d) : Calls Try.prog 34 #[.int .i64 d] w fun e w' => e = .returned (.bool false) ∧ w = w' := by
  by_cases h1 : d < 0
  · have h2 : decide (0 ≤ d) = false := by simp; omega
    clear h
    go_enter Try.func34, Try.ntmps34
    go_wp2
    go_ret
    exact ⟨rfl, rfl⟩
  · have h2 : decide (d ≤ 100000) = false := by simp; omega
    have h3 : 0 ≤ d := by omega
    clear h h1
    go_enter Try.func34, Try.ntmps34
    go_wp2
    go_ret
    exact ⟨rfl, rfl⟩
set_option maxHeartbeats 400000 in
theorem rrate_yes (d : Int) (w : World) (h1 : 0 ≤ d) (h2 : d ≤ 10000) : Calls Try.prog 33 #[.int .i64 d] w fun e w' => e = .returned (.bool true) ∧ w = w' := by
  go_enter Try.func33, Try.ntmps33
  go_wp2
  go_ret
  exact ⟨rfl, rfl⟩
set_option maxHeartbeats 400000 in
theorem rrate_no (d : Int) (w : World) (h : d < 0 ∨ 10000 < d) : Calls Try.prog 33 #[.int .i64 d] w fun e w' => e = .returned (.bool false) ∧ w = w' := by
  by_cases h1 : d < 0
  · have h2 : decide (0 ≤ d) = false := by simp; omega
    clear h
    go_enter Try.func33, Try.ntmps33
    go_wp2
    go_ret
    exact ⟨rfl, rfl⟩
  · have h2 : decide (d ≤ 10000) = false := by simp; omega
    have h3 : 0 ≤ d := by omega
    clear h h1
    go_enter Try.func33, Try.ntmps33
    go_wp2
    go_ret
    exact ⟨rfl, rfl⟩

set_option maxRecDepth 100000 in
set_option maxHeartbeats 1000000 in
theorem rinterest_ok (b g cap : Nat) (r v : Int) (ms : List (Int × Int)) (hgd : Good ms) (hr : Rates r v) (day : Int) (vo : Bool) (hd1 : 0 ≤ day) (hd2 : day ≤ 100000) (hl : dayAt ms (ms.length - 1) ≤ day) (w : World) (hA : RAcc w b g cap r v ms false) :
    Calls Try.prog 19 #[.pointer (some ⟨b, 0, none⟩), .int .i64 day, .bool vo] w fun e w' => e = .returned (.tuple #[.int .i64 (interestOf (rateOf vo r v) (total ms day)), .int .i64 0]) ∧ Below w.heap.size w w' := by
  have HG := Lib.hid hgd
  have HA := Lib.hid hA
  have hl1 := hgd.len1
  have hd0 := hgd.day 0 (by omega)
  have hm0 := hgd.mono' 0 (ms.length - 1) (by omega) (by omega)
  have hlt : ¬ day < dayAt ms (ms.length - 1) := by omega
  have hDay := rDay_yes day w hd1 hd2
  have hLast := Lib.hid (rlast_any b g cap r v ms false hgd)
  have hOn := Lib.hid (ron_any b g cap r v ms false hgd)
  have Hp := Lib.hid (hr.pick vo)
  have HW := Lib.hid (fun (n : Nat) (hn : n ≤ 100000) => wh_bd hgd (rateOf vo r v) (dayAt ms 0) (hr.pick vo).1 (hr.pick vo).2 n hn)
  have HT := Lib.hid (fun n hn => wh_total hgd (rateOf vo r v) n hn)
  have hc0 := hA.c0
  have hc1 := hA.c1
  have hc2 := hA.c2
  have hc3 := hA.c3
  have hdy := hA.day 0 (by omega)
  simp only [Nat.zero_mul] at hdy
  clear hgd hA hr
  obtain ⟨N, hN⟩ : ∃ N : Nat, (N : Int) = day - dayAt ms 0 := ⟨(day - dayAt ms 0).toNat, by omega⟩
  have hNb : N ≤ 100000 := by omega
  have HN := Lib.hid hN
  have HT2 : Hid (wh ms (rateOf vo r v) (dayAt ms 0) N = interestOf (rateOf vo r v) (total ms day)) := by
    have := HT.out N (by rw [HN.out]; omega)
    have e : dayAt ms 0 + (N : Int) = day := by rw [HN.out]; omega
    rw [e] at this
    exact this
  have hN1 : dayAt ms 0 + (N : Int) ≤ day := by omega
  have hN2 : day ≤ dayAt ms 0 + (N : Int) := by omega
  clear HT hN
  obtain ⟨hd3, hd4⟩ := hd0
  generalize hρ : rateOf vo r v = ρ at *
  have Hρ := Lib.hid hρ
  clear hρ
  cases vo
  all_goals
    first | obtain rfl : ρ = r := Hρ.out.symm | obtain rfl : ρ = v := Hρ.out.symm
    clear Hρ
    obtain ⟨hp1, hp2⟩ := Hp.out
    go_enter Try.func19, Try.ntmps19
    go_wp2_with fail
    refine hDay.mono ?_
    rintro e w' ⟨rfl, rfl⟩
    go_wp2_with fail
    refine (hLast.out _ HA.out).mono ?_
    rintro e w1 ⟨rfl, hB1⟩
    have HA1 := Lib.hid (HA.out.below hB1)
    have k0 := HA1.out.c0
    have k1 := HA1.out.c1
    have k2 := HA1.out.c2
    have k3 : w1.cell? ⟨g, 0, none⟩ = some (.int .i64 (dayAt ms 0)) := by have := HA1.out.day 0 (by omega); simpa using this
    clear hc0 hc1 hc2 hc3 hdy
    go_wp2_with fail
    go_loop [9, 10, 11] (fun x y z => ∃ n : Nat, n ≤ N ∧ x = .int .i64 (wh ms ρ (dayAt ms 0) n) ∧ y = .int .i64 (rs ms ρ (dayAt ms 0) n) ∧ z = .int .i64 (dayAt ms 0 + (n : Int))) (fun _ _ z => (day - intOf z).toNat)
    case atStart => exact ⟨0, Nat.zero_le _, by rw [wh_zero], by rw [rs_zero], by simp⟩
    case round =>
      obtain ⟨n, hn, rfl, rfl, rfl⟩ := hrel
      by_cases hnl : n < N
      · obtain ⟨y1, y2⟩ := HW.out n (by omega)
        obtain ⟨y3, y4⟩ := HW.out (n + 1) (by omega)
        obtain ⟨y5, y6⟩ := rs_bd ms ρ (dayAt ms 0) n
        obtain ⟨y7, y8⟩ := onD_bd HG.out (dayAt ms 0 + n) ms.length (Nat.le_refl _)
        have hpr := prod_bd ρ (onD ms (dayAt ms 0 + n) ms.length) 10000 hp1 hp2 y7
        rw [Int.mul_comm ρ] at hpr
        obtain ⟨y9, y10⟩ := hpr
        have W1 := Lib.hid (wh_succ ms ρ (dayAt ms 0) n)
        have R1 := Lib.hid (rs_succ ms ρ (dayAt ms 0) n)
        rw [W1.out] at y3 y4
        go_wp2_with fail
        refine (hOn.out _ _ HA1.out).mono ?_
        rintro e w' ⟨rfl, rfl⟩
        go_wp2_with fail
        go_round
        case rel => exact ⟨n + 1, by omega, by rw [W1.out], by rw [R1.out], by simp; omega⟩
        case measure => simp [intOf]; omega
      · obtain rfl : n = N := by omega
        go_wp2_with fail
        go_ret2
        exact ⟨by rw [HT2.out]; rfl, hB1⟩
end Go.Proofs.Ytodnnfdglkidgaa
