/- Receive, Move, Balance, New, Release. -/
import Derived.Test.YtodnnfdglkidgaaF
set_option linter.unusedVariables false
namespace Go.Proofs.Ytodnnfdglkidgaa
open Go.RowKit Go.Shelf

section
variable (b g cap : Nat) (r v : Int) (ms : List (Int × Int)) (cl : Bool) (hgd : Good ms) (d u : Int) (hu1 : -1000000000000 ≤ u) (hu2 : u ≤ 1000000000000) (lic : Bool)
theorem says0 : Says b g cap r v ms cl 29 #[.pointer (some ⟨b, 0, none⟩)] (errOpen cl) := fun w hA => (open_any b g cap r v ms cl w hA).mono fun _ _ ⟨a, c⟩ => ⟨a, c ▸ Below.refl _ _⟩
theorem says1 : Says b g cap r v ms cl 43 #[ent b d u lic] (errLic lic) := fun w _ => allowed_any b d u lic w
include hgd
theorem says2 : Says b g cap r v ms cl 30 #[ent b d u lic] (errOrder ms d) := fun w hA => ordered_any b g cap r v ms cl hgd.len1 hgd.bnd.len d u lic w hA
include hu1 hu2
theorem says3 : Says b g cap r v ms cl 44 #[ent b d u lic] (errCov ms u) := fun w hA => covered_any b g cap r v ms cl hgd d u hu1 hu2 lic w hA
theorem says4 : Says b g cap r v ms cl 45 #[ent b d u lic] (errBnd ms u) := fun w hA => bounded_any b g cap r v ms cl hgd d u hu1 hu2 lic w hA

theorem add_no (h : errAdd cl lic ms d u ≠ 0) (w : World) (hA : Acc 58 55 w b g cap r v ms cl) :
    Calls Try.prog 41 #[.pointer (some ⟨b, 0, none⟩), .int .i64 d, .int .i64 u, .bool lic] w fun e w' => e = .returned (.int .i64 (errAdd cl lic ms d u)) ∧ Below w.heap.size w w' := by
  have s0 := says0 b g cap r v ms cl
  have s1 := says1 b g cap r v ms cl d u lic
  have s2 := says2 b g cap r v ms cl hgd d u lic
  have s3 := says3 b g cap r v ms cl hgd d u hu1 hu2 lic
  have s4 := says4 b g cap r v ms cl hgd d u hu1 hu2 lic
  by_cases h0 : errOpen cl = 0
  · rw [h0] at s0
    by_cases h1 : errLic lic = 0
    · rw [h1] at s1
      by_cases h2 : errOrder ms d = 0
      · rw [h2] at s2
        by_cases h3 : errCov ms u = 0
        · rw [h3] at s3
          have e : errAdd cl lic ms d u = errBnd ms u := by simp [errAdd, h0, h1, h2, h3]
          rw [e] at h ⊢
          exact add_fail4 b g cap r v ms cl d u lic s0 s1 s2 s3 _ h s4 w hA
        · have e : errAdd cl lic ms d u = errCov ms u := by simp [errAdd, h0, h1, h2, h3]
          rw [e] at h ⊢
          exact add_fail3 b g cap r v ms cl d u lic s0 s1 s2 _ h s3 w hA
      · have e : errAdd cl lic ms d u = errOrder ms d := by simp [errAdd, h0, h1, h2]
        rw [e] at h ⊢
        exact add_fail2 b g cap r v ms cl d u lic s0 s1 _ h s2 w hA
    · have e : errAdd cl lic ms d u = errLic lic := by simp [errAdd, h0, h1]
      rw [e] at h ⊢
      exact add_fail1 b g cap r v ms cl d u lic s0 _ h s1 w hA
  · have e : errAdd cl lic ms d u = errOpen cl := by simp [errAdd, h0]
    rw [e] at h ⊢
    exact add_fail0 b g cap r v ms cl d u lic _ h s0 w hA

theorem add_yes (h : errAdd cl lic ms d u = 0) (w : World) (hA : Acc 58 55 w b g cap r v ms cl) :
    Calls Try.prog 41 #[.pointer (some ⟨b, 0, none⟩), .int .i64 d, .int .i64 u, .bool lic] w fun e w' => e = .returned (.int .i64 0) ∧
      ∃ g' cap', Acc 58 55 w' b g' cap' r v (ms ++ [(d, u)]) cl ∧ Chg [b, g] w w' ∧ (g' = g ∨ w.heap.size ≤ g') := by
  have s0 := says0 b g cap r v ms cl
  have s1 := says1 b g cap r v ms cl d u lic
  have s2 := says2 b g cap r v ms cl hgd d u lic
  have s3 := says3 b g cap r v ms cl hgd d u hu1 hu2 lic
  have s4 := says4 b g cap r v ms cl hgd d u hu1 hu2 lic
  have h0 : errOpen cl = 0 := by by_cases x : errOpen cl = 0; exact x; simp [errAdd, x] at h
  have h1 : errLic lic = 0 := by by_cases x : errLic lic = 0; exact x; simp [errAdd, h0, x] at h
  have h2 : errOrder ms d = 0 := by by_cases x : errOrder ms d = 0; exact x; simp [errAdd, h0, h1, x] at h
  have h3 : errCov ms u = 0 := by by_cases x : errCov ms u = 0; exact x; simp [errAdd, h0, h1, h2, x] at h
  have h4 : errBnd ms u = 0 := by simpa [errAdd, h0, h1, h2, h3] using h
  rw [h0] at s0
  rw [h1] at s1
  rw [h2] at s2
  rw [h3] at s3
  rw [h4] at s4
  exact add_pass b g cap r v ms cl hgd.bnd.len d u lic s0 s1 s2 s3 s4 w hA
end

/-- The outcome of a call that adds a movement: the error E; with 0 the movement is there. -/
def Added (b g cap : Nat) (r v : Int) (ms : List (Int × Int)) (cl : Bool) (d u E : Int) (w : World) (e : Ending) (w' : World) : Prop :=
  e = .returned (.int .i64 E) ∧ ∃ g' cap', Acc 58 55 w' b g' cap' r v (if E = 0 then ms ++ [(d, u)] else ms) cl ∧ Chg [b, g] w w' ∧ (g' = g ∨ w.heap.size ≤ g')

theorem add_any (b g cap : Nat) (r v : Int) (ms : List (Int × Int)) (cl : Bool) (hgd : Good ms) (d u : Int) (hu1 : -1000000000000 ≤ u) (hu2 : u ≤ 1000000000000) (lic : Bool) (w : World) (hA : Acc 58 55 w b g cap r v ms cl) :
    Calls Try.prog 41 #[.pointer (some ⟨b, 0, none⟩), .int .i64 d, .int .i64 u, .bool lic] w (Added b g cap r v ms cl d u (errAdd cl lic ms d u) w) := by
  by_cases h : errAdd cl lic ms d u = 0
  · refine (add_yes b g cap r v ms cl hgd d u hu1 hu2 lic h w hA).mono ?_
    rintro e w' ⟨rfl, g', cap', h1, h2, h3⟩
    exact ⟨by rw [h], g', cap', by rw [if_pos h]; exact h1, h2, h3⟩
  · refine (add_no b g cap r v ms cl hgd d u hu1 hu2 lic h w hA).mono ?_
    rintro e w' ⟨rfl, hb⟩
    exact ⟨rfl, g, cap, by rw [if_neg h]; exact hA.below hb, Below.chg hb _, .inl rfl⟩

set_option maxHeartbeats 400000 in
theorem receive_nil (d u : Int) (w : World) : Calls Try.prog 22 #[.pointer none, .int .i64 d, .int .i64 u] w fun e w' => e = .returned (.int .i64 1) ∧ w = w' := by
  go_enter Try.func22, Try.ntmps22
  go_wp2
  go_ret
  exact ⟨rfl, rfl⟩
set_option maxHeartbeats 400000 in
theorem move_nil (d u : Int) (lic : Bool) (w : World) : Calls Try.prog 23 #[.pointer none, .int .i64 d, .int .i64 u, .bool lic] w fun e w' => e = .returned (.int .i64 1) ∧ w = w' := by
  go_enter Try.func23, Try.ntmps23
  go_wp2
  go_ret
  exact ⟨rfl, rfl⟩
theorem within_yes (n lo hi : Int) (w : World) (h1 : lo ≤ n) (h2 : n ≤ hi) : Calls Try.prog 26 #[.int .i64 n, .int .i64 lo, .int .i64 hi] w fun e w' => e = .returned (.bool true) ∧ w = w' := by
  go_enter Try.func26, Try.ntmps26
  go_wp2
  go_ret
  exact ⟨rfl, rfl⟩
theorem within_no (n lo hi : Int) (w : World) (h : n < lo ∨ hi < n) : Calls Try.prog 26 #[.int .i64 n, .int .i64 lo, .int .i64 hi] w fun e w' => e = .returned (.bool false) ∧ w = w' := by
  by_cases h1 : n < lo
  · clear h
    go_enter Try.func26, Try.ntmps26
    go_wp2
    go_ret
    exact ⟨rfl, rfl⟩
  · have h2 : decide (n ≤ hi) = false := by simp; omega
    have h3 : lo ≤ n := by omega
    clear h h1
    go_enter Try.func26, Try.ntmps26
    go_wp2
    go_ret
    exact ⟨rfl, rfl⟩

set_option maxHeartbeats 400000 in
theorem receive_arg (p : Addr) (d u : Int) (w : World) (h : ¬ okDU d u) : Calls Try.prog 22 #[.pointer (some p), .int .i64 d, .int .i64 u] w fun e w' => e = .returned (.int .i64 1) ∧ w = w' := by
  by_cases hd : 0 ≤ d ∧ d ≤ 100000
  · have H1 := isDay_yes d w hd.1 hd.2
    have H2 := within_no u 1 1000000000000 w (by unfold okDU at h; omega)
    clear h hd
    go_enter Try.func22, Try.ntmps22
    go_wp2_with (first | (go_at_call 27; refine H1.mono ?_; rintro e w' ⟨rfl, rfl⟩) | (go_at_call 26; refine H2.mono ?_; rintro e w' ⟨rfl, rfl⟩))
    go_ret
    exact ⟨rfl, rfl⟩
  · have H1 := isDay_no d w (by omega)
    clear h hd
    go_enter Try.func22, Try.ntmps22
    go_wp2_with (first | (go_at_call 27; refine H1.mono ?_; rintro e w' ⟨rfl, rfl⟩))
    go_ret
    exact ⟨rfl, rfl⟩
set_option maxHeartbeats 400000 in
theorem move_arg (p : Addr) (d u : Int) (lic : Bool) (w : World) (h : ¬ okDU d u) : Calls Try.prog 23 #[.pointer (some p), .int .i64 d, .int .i64 u, .bool lic] w fun e w' => e = .returned (.int .i64 1) ∧ w = w' := by
  by_cases hd : 0 ≤ d ∧ d ≤ 100000
  · have H1 := isDay_yes d w hd.1 hd.2
    have H2 := within_no u 1 1000000000000 w (by unfold okDU at h; omega)
    clear h hd
    go_enter Try.func23, Try.ntmps23
    go_wp2_with (first | (go_at_call 27; refine H1.mono ?_; rintro e w' ⟨rfl, rfl⟩) | (go_at_call 26; refine H2.mono ?_; rintro e w' ⟨rfl, rfl⟩))
    go_ret
    exact ⟨rfl, rfl⟩
  · have H1 := isDay_no d w (by omega)
    clear h hd
    go_enter Try.func23, Try.ntmps23
    go_wp2_with (first | (go_at_call 27; refine H1.mono ?_; rintro e w' ⟨rfl, rfl⟩))
    go_ret
    exact ⟨rfl, rfl⟩
set_option maxHeartbeats 400000 in
theorem receive_any (b g cap : Nat) (r v : Int) (ms : List (Int × Int)) (cl : Bool) (hgd : Good ms) (d u : Int) (h : okDU d u) (w : World) (hA : Acc 58 55 w b g cap r v ms cl) :
    Calls Try.prog 22 #[.pointer (some ⟨b, 0, none⟩), .int .i64 d, .int .i64 u] w (Added b g cap r v ms cl d u (errAdd cl true ms d u) w) := by
  obtain ⟨⟨h1, h2⟩, h3, h4⟩ := h
  have H1 := isDay_yes d w h1 h2
  have H2 := within_yes u 1 1000000000000 w h3 h4
  have H3 := add_any b g cap r v ms cl hgd d u (by omega) h4 true w hA
  clear hgd h1 h2 h3 h4
  go_enter Try.func22, Try.ntmps22
  go_wp2_with (first | (go_at_call 27; refine H1.mono ?_; rintro e w' ⟨rfl, rfl⟩) | (go_at_call 26; refine H2.mono ?_; rintro e w' ⟨rfl, rfl⟩))
  refine H3.mono ?_
  rintro e w' ⟨rfl, hh⟩
  go_wp2_with fail
  go_ret
  exact ⟨rfl, hh⟩
set_option maxHeartbeats 400000 in
theorem move_any (b g cap : Nat) (r v : Int) (ms : List (Int × Int)) (cl : Bool) (hgd : Good ms) (d u : Int) (h : okDU d u) (lic : Bool) (w : World) (hA : Acc 58 55 w b g cap r v ms cl) :
    Calls Try.prog 23 #[.pointer (some ⟨b, 0, none⟩), .int .i64 d, .int .i64 u, .bool lic] w (Added b g cap r v ms cl d (-u) (errAdd cl lic ms d (-u)) w) := by
  obtain ⟨⟨h1, h2⟩, h3, h4⟩ := h
  have H1 := isDay_yes d w h1 h2
  have H2 := within_yes u 1 1000000000000 w h3 h4
  have H3 := add_any b g cap r v ms cl hgd d (-u) (by omega) (by omega) lic w hA
  clear hgd h1 h2
  go_enter Try.func23, Try.ntmps23
  go_wp2_with (first | (go_at_call 27; refine H1.mono ?_; rintro e w' ⟨rfl, rfl⟩) | (go_at_call 26; refine H2.mono ?_; rintro e w' ⟨rfl, rfl⟩))
  refine H3.mono ?_
  rintro e w' ⟨rfl, hh⟩
  go_wp2_with fail
  go_ret
  exact ⟨rfl, hh⟩

set_option maxHeartbeats 400000 in
theorem balance_nil (w : World) : Calls Try.prog 13 #[.pointer none] w fun e w' => e = .returned (.int .i64 0) ∧ w = w' := by
  go_enter Try.func13, Try.ntmps13
  go_wp2
  go_ret
  exact ⟨rfl, rfl⟩
def balOf (cl : Bool) (ms : List (Int × Int)) : Int := if cl then 0 else balTo ms ms.length
set_option maxHeartbeats 400000 in
theorem balance_any (b g cap : Nat) (r v : Int) (ms : List (Int × Int)) (cl : Bool) (hgd : Good ms) (w : World) (hA : Acc 58 55 w b g cap r v ms cl) :
    Calls Try.prog 13 #[.pointer (some ⟨b, 0, none⟩)] w fun e w' => e = .returned (.int .i64 (balOf cl ms)) ∧ Below w.heap.size w w' := by
  have hc := hA.c3
  cases cl
  · have HR : Hid (balOf false ms = balTo ms ms.length) := rfl
    have H := sum_any b g cap r v ms false hgd.bnd w hA
    clear hgd
    go_enter Try.func13, Try.ntmps13
    go_wp2_with (go_at_call 32; refine H.mono ?_; rintro e w' ⟨rfl, hb⟩)
    go_ret
    exact ⟨ret_int HR.out.symm, hb⟩
  · have HR : Hid (balOf true ms = 0) := rfl
    clear hgd
    go_enter Try.func13, Try.ntmps13
    go_wp2_with fail
    go_ret
    exact ⟨ret_int HR.out.symm, Below.refl _ _⟩
end Go.Proofs.Ytodnnfdglkidgaa
