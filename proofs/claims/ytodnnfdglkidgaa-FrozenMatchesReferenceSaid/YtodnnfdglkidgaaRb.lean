/- The reference account: every outcome of Interest, Balance and Release. -/
import Derived.Test.YtodnnfdglkidgaaRa
set_option linter.unusedVariables false
namespace Go.Proofs.Ytodnnfdglkidgaa
open Go.RowKit Go.Shelf

set_option maxHeartbeats 400000 in
theorem rinterest_arg (p : Addr) (day : Int) (vo : Bool) (w : World) (h : day < 0 ∨ 100000 < day) : Calls Try.prog 19 #[.pointer (some p), .int .i64 day, .bool vo] w fun e w' => e = .returned (.tuple #[.int .i64 0, .int .i64 1]) ∧ w = w' := by
  have hD := rDay_no day w h
  clear h
  go_enter Try.func19, Try.ntmps19
  go_wp2_with (go_at_call 34; refine hD.mono ?_; rintro e w' ⟨rfl, rfl⟩)
  go_ret2
  exact ⟨rfl, rfl⟩
set_option maxHeartbeats 400000 in
theorem rinterest_closed (b g cap : Nat) (r v : Int) (ms : List (Int × Int)) (day : Int) (vo : Bool) (hd1 : 0 ≤ day) (hd2 : day ≤ 100000) (w : World) (hA : RAcc w b g cap r v ms true) :
    Calls Try.prog 19 #[.pointer (some ⟨b, 0, none⟩), .int .i64 day, .bool vo] w fun e w' => e = .returned (.tuple #[.int .i64 0, .int .i64 29]) ∧ w = w' := by
  have hD := rDay_yes day w hd1 hd2
  have c3 := hA.c3
  clear hd1 hd2
  go_enter Try.func19, Try.ntmps19
  go_wp2_with (go_at_call 34; refine hD.mono ?_; rintro e w' ⟨rfl, rfl⟩)
  go_ret2
  exact ⟨rfl, rfl⟩
set_option maxHeartbeats 400000 in
theorem rinterest_early (b g cap : Nat) (r v : Int) (ms : List (Int × Int)) (hgd : Good ms) (day : Int) (vo : Bool) (hd1 : 0 ≤ day) (hd2 : day ≤ 100000) (hl : day < dayAt ms (ms.length - 1)) (w : World) (hA : RAcc w b g cap r v ms false) :
    Calls Try.prog 19 #[.pointer (some ⟨b, 0, none⟩), .int .i64 day, .bool vo] w fun e w' => e = .returned (.tuple #[.int .i64 0, .int .i64 14]) ∧ Below w.heap.size w w' := by
  have hD := rDay_yes day w hd1 hd2
  have hL := rlast_any b g cap r v ms false hgd w hA
  have c3 := hA.c3
  clear hd1 hd2 hgd hA
  go_enter Try.func19, Try.ntmps19
  go_wp2_with fail
  refine hD.mono ?_
  rintro e w' ⟨rfl, rfl⟩
  go_wp2_with fail
  refine hL.mono ?_
  rintro e w1 ⟨rfl, hB⟩
  go_wp2_with fail
  go_ret2
  exact ⟨rfl, hB⟩

theorem rinterest_all (b g cap : Nat) (r v : Int) (ms : List (Int × Int)) (cl : Bool) (hgd : Good ms) (hr : Rates r v) (day : Int) (vo : Bool) (w : World) (hA : RAcc w b g cap r v ms cl) :
    Calls Try.prog 19 #[.pointer (some ⟨b, 0, none⟩), .int .i64 day, .bool vo] w fun e W' => e = .returned (.tuple #[.int .i64 (intZ (rateOf vo r v) cl ms day), .int .i64 (intE cl ms day)]) ∧ Below w.heap.size w W' := by
  by_cases hd : 0 ≤ day ∧ day ≤ 100000
  · have hE : intE cl ms day = errTwo cl ms day := by unfold intE; rw [if_pos hd]
    cases cl
    · by_cases h : day < dayAt ms (ms.length - 1)
      · have hE2 : errTwo false ms day = 14 := by simp [errTwo, errOrder, h]
        have hZ : intZ (rateOf vo r v) false ms day = 0 := by unfold intZ; rw [hE, hE2]; rfl
        rw [hZ, hE, hE2]
        exact rinterest_early b g cap r v ms hgd day vo hd.1 hd.2 h w hA
      · have hE2 : errTwo false ms day = 0 := by simp [errTwo, errOrder]; omega
        have hZ : intZ (rateOf vo r v) false ms day = interestOf (rateOf vo r v) (total ms day) := by unfold intZ; rw [hE, if_pos hE2]
        rw [hZ, hE, hE2]
        exact rinterest_ok b g cap r v ms hgd hr day vo hd.1 hd.2 (by omega) w hA
    · have hE2 : errTwo true ms day = 29 := rfl
      have hZ : intZ (rateOf vo r v) true ms day = 0 := by unfold intZ; rw [hE, hE2]; rfl
      rw [hZ, hE, hE2]
      exact (rinterest_closed b g cap r v ms day vo hd.1 hd.2 w hA).mono fun _ _ h => ⟨h.1, h.2 ▸ Below.refl _ _⟩
  · have hE : intE cl ms day = 1 := by unfold intE; rw [if_neg hd]
    have hZ : intZ (rateOf vo r v) cl ms day = 0 := by unfold intZ; rw [hE]; rfl
    rw [hZ, hE]
    exact (rinterest_arg _ day vo w (by omega)).mono fun _ _ h => ⟨h.1, h.2 ▸ Below.refl _ _⟩

set_option maxHeartbeats 400000 in
theorem rbalance_any (b g cap : Nat) (r v : Int) (ms : List (Int × Int)) (cl : Bool) (hgd : Good ms) (w : World) (hA : RAcc w b g cap r v ms cl) :
    Calls Try.prog 18 #[.pointer (some ⟨b, 0, none⟩)] w fun e w' => e = .returned (.int .i64 (balOf cl ms)) ∧ Below w.heap.size w w' := by
  have hc := hA.c3
  cases cl
  · have HR : Hid (balOf false ms = balTo ms ms.length) := rfl
    have H := rsum_any b g cap r v ms false hgd w hA
    clear hgd
    go_enter Try.func18, Try.ntmps18
    go_wp2_with (go_at_call 38; refine H.mono ?_; rintro e w' ⟨rfl, rfl⟩)
    go_ret
    exact ⟨ret_int HR.out.symm, Below.refl _ _⟩
  · have HR : Hid (balOf true ms = 0) := rfl
    clear hgd
    go_enter Try.func18, Try.ntmps18
    go_wp2_with fail
    go_ret
    exact ⟨ret_int HR.out.symm, Below.refl _ _⟩

set_option maxHeartbeats 400000 in
theorem rrelease_no (b g cap : Nat) (r v : Int) (ms : List (Int × Int)) (cl : Bool) (hgd : Good ms) (hr : Rates r v) (day : Int) (vo : Bool) (w : World) (hA : RAcc w b g cap r v ms cl) (h : intE cl ms day ≠ 0) :
    Calls Try.prog 21 #[.pointer (some ⟨b, 0, none⟩), .int .i64 day, .bool vo] w fun e W' => e = .returned (.tuple #[.int .i64 0, .int .i64 0, .int .i64 (intE cl ms day)]) ∧ Below w.heap.size w W' := by
  have H := rinterest_all b g cap r v ms cl hgd hr day vo w hA
  have hE' : (intE cl ms day != 0) = true := by simp [h]
  generalize intE cl ms day = E at *
  clear h
  go_enter Try.func21, Try.ntmps21
  go_wp2_with fail
  refine H.mono ?_
  rintro e w' ⟨rfl, hb⟩
  go_wp2_with fail
  go_ret3
  exact ⟨rfl, hb⟩
set_option maxHeartbeats 400000 in
theorem rrelease_yes (b g cap : Nat) (r v : Int) (ms : List (Int × Int)) (cl : Bool) (hgd : Good ms) (hr : Rates r v) (day : Int) (vo : Bool) (w : World) (hA : RAcc w b g cap r v ms cl) (h : intE cl ms day = 0) :
    Calls Try.prog 21 #[.pointer (some ⟨b, 0, none⟩), .int .i64 day, .bool vo] w fun e w' => e = .returned (.tuple #[.int .i64 (balTo ms ms.length), .int .i64 (intZ (rateOf vo r v) cl ms day), .int .i64 0]) ∧
      RAcc w' b g cap r v ms true ∧ Chg [b] w w' := by
  have H := rinterest_all b g cap r v ms cl hgd hr day vo w hA
  rw [h] at H
  have HS := Lib.hid (rsum_any b g cap r v ms true hgd)
  generalize intZ (rateOf vo r v) cl ms day = I at *
  clear h hgd hr
  go_enter Try.func21, Try.ntmps21
  go_wp2_with fail
  refine H.mono ?_
  rintro e w1 ⟨rfl, hb⟩
  have hA1 := hA.below hb
  have c3 := hA1.c3
  have f3 := hA1.fr 3
  go_wp2_with fail
  refine (HS.out _ hA1.close).mono ?_
  rintro e w2 ⟨rfl, rfl⟩
  go_wp2_with fail
  go_ret3
  exact ⟨rfl, hA1.close, (Below.chg hb _).setCell (.inl (by simp)) _⟩
end Go.Proofs.Ytodnnfdglkidgaa
