/- The reference account: New and the three steps. -/
import Derived.Test.YtodnnfdglkidgaaRb
set_option linter.unusedVariables false
namespace Go.Proofs.Ytodnnfdglkidgaa
open Go.RowKit Go.Shelf

def RDid (b g : Nat) (r v : Int) (ms' : List (Int × Int)) (cl : Bool) (E : Int) (w : World) (e : Ending) (w' : World) : Prop :=
  e = .returned (.int .i64 E) ∧ ∃ g' cap', RAcc w' b g' cap' r v ms' cl ∧ Chg [b, g] w w' ∧ (g' = g ∨ w.heap.size ≤ g')
theorem rdid_same {b g cap : Nat} {r v : Int} {ms : List (Int × Int)} {cl : Bool} {E : Int} {w : World} (hA : RAcc w b g cap r v ms cl) {e : Ending} {w' : World} (he : e = .returned (.int .i64 E)) (hb : Below w.heap.size w w') : RDid b g r v ms cl E w e w' :=
  ⟨he, g, cap, hA.below hb, Below.chg hb _, .inl rfl⟩

theorem Try.info67 : (Try.prog.info? 67).map (fun i => (i.zero, i.size, i.bytes)) = some (some (.agg #[.int .i64 0, .int .i64 0]), 2, 16) := by kernel_rfl

set_option maxRecDepth 100000 in
set_option maxHeartbeats 400000 in
theorem rnew_yes (r v d u : Int) (h : okNew r v d u) (w : World) : Calls Try.prog 16 #[.int .i64 r, .int .i64 v, .int .i64 d, .int .i64 u] w fun e w' => e = .returned (.tuple #[.pointer (some ⟨w.heap.size + 1, 0, none⟩), .int .i64 0]) ∧
      RAcc w' (w.heap.size + 1) w.heap.size 1 r v [(d, u)] false ∧ Below w.heap.size w w' := by
  obtain ⟨⟨h1, h2⟩, ⟨h3, h4⟩, ⟨h5, h6⟩, h7, h8⟩ := h
  go_enter Try.func16, Try.ntmps16
  go_wp2
  go_ret2
  refine ⟨rfl, ⟨?_, ⟨rfl, .inr ⟨w.heap.size, 1, #[.int .i64 d, .int .i64 u], rfl, Nat.zero_le _, ?_, Nat.le_refl _, by decide, rfl, rfl⟩⟩, by omega⟩, ((Below.refl _ _).alloc (Nat.le_refl _) _).alloc (by simp) _⟩
  · have := heap_alloc_new (w.alloc (.cells #[.int .i64 d, .int .i64 u] 67)) (.cells #[.int .i64 r, .int .i64 v, .slice (some ⟨w.heap.size, 0, none⟩) 1 1, .bool false] 70)
    simpa using this
  · exact (heap_alloc_old _ _ _ (by simp)).trans (heap_alloc_new _ _)

set_option maxRecDepth 100000 in
set_option maxHeartbeats 400000 in
theorem rnew_no (r v d u : Int) (w : World) (h : ¬ okNew r v d u) :
    Calls Try.prog 16 #[.int .i64 r, .int .i64 v, .int .i64 d, .int .i64 u] w fun e w' => e = .returned (.tuple #[.pointer none, .int .i64 1]) ∧ w = w' := by
  have hy : ∀ n lo hi : Int, (lo ≤ n ∧ n ≤ hi) ∨ (n < lo ∨ hi < n) := fun n lo hi => by omega
  rcases hy r 0 10000 with ⟨a, b⟩ | a
  · have R1 := rrate_yes r w a b
    rcases hy v 0 10000 with ⟨c, e⟩ | c
    · have R2 := rrate_yes v w c e
      rcases hy d 0 100000 with ⟨f, g⟩ | f
      · have R3 := rDay_yes d w f g
        have hu : u < 0 ∨ 1000000000000 < u := by unfold okNew at h; omega
        clear h a b c e f g hy
        by_cases hu1 : u < 0
        · clear hu
          go_enter Try.func16, Try.ntmps16
          go_wp2_with fail
          refine R1.mono ?_; rintro e w' ⟨rfl, rfl⟩
          go_wp2_with fail
          refine R2.mono ?_; rintro e w' ⟨rfl, rfl⟩
          go_wp2_with fail
          refine R3.mono ?_; rintro e w' ⟨rfl, rfl⟩
          go_wp2_with fail
          go_ret2
          exact ⟨rfl, rfl⟩
        · have hu2 : 1000000000000 < u := by omega
          have hu3 : decide (u < 0) = false := by simp; omega
          clear hu
          go_enter Try.func16, Try.ntmps16
          go_wp2_with fail
          refine R1.mono ?_; rintro e w' ⟨rfl, rfl⟩
          go_wp2_with fail
          refine R2.mono ?_; rintro e w' ⟨rfl, rfl⟩
          go_wp2_with fail
          refine R3.mono ?_; rintro e w' ⟨rfl, rfl⟩
          go_wp2_with fail
          go_ret2
          exact ⟨rfl, rfl⟩
      · have R3 := rDay_no d w f
        clear h a b c e f hy
        go_enter Try.func16, Try.ntmps16
        go_wp2_with fail
        refine R1.mono ?_; rintro e w' ⟨rfl, rfl⟩
        go_wp2_with fail
        refine R2.mono ?_; rintro e w' ⟨rfl, rfl⟩
        go_wp2_with fail
        refine R3.mono ?_; rintro e w' ⟨rfl, rfl⟩
        go_wp2_with fail
        go_ret2
        exact ⟨rfl, rfl⟩
    · have R2 := rrate_no v w c
      clear h a b c hy
      go_enter Try.func16, Try.ntmps16
      go_wp2_with fail
      refine R1.mono ?_; rintro e w' ⟨rfl, rfl⟩
      go_wp2_with fail
      refine R2.mono ?_; rintro e w' ⟨rfl, rfl⟩
      go_wp2_with fail
      go_ret2
      exact ⟨rfl, rfl⟩
  · have R1 := rrate_no r w a
    clear h a hy
    go_enter Try.func16, Try.ntmps16
    go_wp2_with fail
    refine R1.mono ?_; rintro e w' ⟨rfl, rfl⟩
    go_wp2_with fail
    go_ret2
    exact ⟨rfl, rfl⟩

theorem errAdd_in {ms : List (Int × Int)} (h : Good ms) (cl : Bool) {d u : Int} (hu : 1 ≤ u) : errAdd cl true ms d u = if cl then 29 else if d < dayAt ms (ms.length - 1) then 14 else if 1000 ≤ ms.length ∨ 1000000000000 < balTo ms ms.length + u then 2 else 0 := by
  have hb := h.bal ms.length (Nat.le_refl _)
  have hc : errCov ms u = 0 := by unfold errCov; rw [if_neg (by omega)]
  unfold errAdd
  rw [hc]
  cases cl
  · by_cases a : d < dayAt ms (ms.length - 1)
    · simp [errOpen, errLic, errOrder, a]
    · simp [errOpen, errLic, errOrder, a, errBnd]
  · simp [errOpen]
theorem errAdd_out {ms : List (Int × Int)} (h : Good ms) (cl lic : Bool) {d u : Int} (hu : 1 ≤ u) : errAdd cl lic ms d (-u) = if cl then 29 else if lic = false then 20 else if d < dayAt ms (ms.length - 1) then 14 else if balTo ms ms.length < u then 21 else if 1000 ≤ ms.length then 2 else 0 := by
  have hb := h.bal ms.length (Nat.le_refl _)
  unfold errAdd
  cases cl
  · cases lic
    · simp [errOpen, errLic]
    · by_cases a : d < dayAt ms (ms.length - 1)
      · simp [errOpen, errLic, errOrder, a]
      · by_cases b : balTo ms ms.length < u
        · have : balTo ms ms.length + -u < 0 := by omega
          simp [errOpen, errLic, errOrder, a, errCov, this, b]
        · have e1 : ¬ balTo ms ms.length + -u < 0 := by omega
          have e2 : ¬ 1000000000000 < balTo ms ms.length + -u := by omega
          simp [errOpen, errLic, errOrder, a, errCov, e1, b, errBnd, e2]
  · simp [errOpen]

set_option maxRecDepth 100000 in
set_option maxHeartbeats 400000 in
theorem rreceive_arg (p : Addr) (d u : Int) (w : World) (h : ¬ okDU d u) : Calls Try.prog 35 #[.pointer (some p), .int .i64 d, .int .i64 u] w fun e w' => e = .returned (.int .i64 1) ∧ w = w' := by
  by_cases hd : 0 ≤ d ∧ d ≤ 100000
  · have H1 := rDay_yes d w hd.1 hd.2
    have hu : u < 1 ∨ 1000000000000 < u := by unfold okDU at h; omega
    clear h hd
    by_cases hu1 : u < 1
    · clear hu
      go_enter Try.func35, Try.ntmps35
      go_wp2_with (first | (go_at_call 34; refine H1.mono ?_; rintro e w' ⟨rfl, rfl⟩))
      go_ret
      exact ⟨rfl, rfl⟩
    · have hu2 : 1000000000000 < u := by omega
      have hu3 : decide (u < 1) = false := by simp; omega
      clear hu
      go_enter Try.func35, Try.ntmps35
      go_wp2_with (first | (go_at_call 34; refine H1.mono ?_; rintro e w' ⟨rfl, rfl⟩))
      go_ret
      exact ⟨rfl, rfl⟩
  · have H1 := rDay_no d w (by omega)
    clear h hd
    go_enter Try.func35, Try.ntmps35
    go_wp2_with (first | (go_at_call 34; refine H1.mono ?_; rintro e w' ⟨rfl, rfl⟩))
    go_ret
    exact ⟨rfl, rfl⟩

set_option maxRecDepth 100000 in
set_option maxHeartbeats 400000 in
theorem rmove_arg (p : Addr) (d u : Int) (lic : Bool) (w : World) (h : ¬ okDU d u) : Calls Try.prog 36 #[.pointer (some p), .int .i64 d, .int .i64 u, .bool lic] w fun e w' => e = .returned (.int .i64 1) ∧ w = w' := by
  by_cases hd : 0 ≤ d ∧ d ≤ 100000
  · have H1 := rDay_yes d w hd.1 hd.2
    have hu : u < 1 ∨ 1000000000000 < u := by unfold okDU at h; omega
    clear h hd
    by_cases hu1 : u < 1
    · clear hu
      go_enter Try.func36, Try.ntmps36
      go_wp2_with (first | (go_at_call 34; refine H1.mono ?_; rintro e w' ⟨rfl, rfl⟩))
      go_ret
      exact ⟨rfl, rfl⟩
    · have hu2 : 1000000000000 < u := by omega
      have hu3 : decide (u < 1) = false := by simp; omega
      clear hu
      go_enter Try.func36, Try.ntmps36
      go_wp2_with (first | (go_at_call 34; refine H1.mono ?_; rintro e w' ⟨rfl, rfl⟩))
      go_ret
      exact ⟨rfl, rfl⟩
  · have H1 := rDay_no d w (by omega)
    clear h hd
    go_enter Try.func36, Try.ntmps36
    go_wp2_with (first | (go_at_call 34; refine H1.mono ?_; rintro e w' ⟨rfl, rfl⟩))
    go_ret
    exact ⟨rfl, rfl⟩

set_option maxRecDepth 100000 in
set_option maxHeartbeats 400000 in
theorem rreceive_closed (b g cap : Nat) (r v : Int) (ms : List (Int × Int)) (hgd : Good ms) (d u : Int) (h : okDU d u) (w : World) (hA : RAcc w b g cap r v ms true) :
    Calls Try.prog 35 #[.pointer (some ⟨b, 0, none⟩), .int .i64 d, .int .i64 u] w fun e w' => e = .returned (.int .i64 29) ∧ Below w.heap.size w w' := by
  obtain ⟨⟨h1, h2⟩, h3, h4⟩ := h
  have H1 := rDay_yes d w h1 h2
  have c3 := hA.c3
  have c2 := hA.c2
  have HL := Lib.hid (fun cl => rlast_any b g cap r v ms cl hgd w)
  have HS := Lib.hid (fun cl => rsum_any b g cap r v ms cl hgd)
  have HG := Lib.hid hgd
  have hln := hgd.len2
  obtain ⟨hbl1, hbl2⟩ := hgd.bal ms.length (Nat.le_refl _)
  clear hgd h1 h2
  go_enter Try.func35, Try.ntmps35
  go_wp2_with fail
  refine H1.mono ?_
  rintro e w' ⟨rfl, rfl⟩
  go_wp2_with fail
  go_ret
  exact ⟨rfl, Below.refl _ _⟩

set_option maxRecDepth 100000 in
set_option maxHeartbeats 400000 in
theorem rreceive_early (b g cap : Nat) (r v : Int) (ms : List (Int × Int)) (hgd : Good ms) (d u : Int) (h : okDU d u) (hx : d < dayAt ms (ms.length - 1)) (w : World) (hA : RAcc w b g cap r v ms false) :
    Calls Try.prog 35 #[.pointer (some ⟨b, 0, none⟩), .int .i64 d, .int .i64 u] w fun e w' => e = .returned (.int .i64 14) ∧ Below w.heap.size w w' := by
  obtain ⟨⟨h1, h2⟩, h3, h4⟩ := h
  have H1 := rDay_yes d w h1 h2
  have c3 := hA.c3
  have c2 := hA.c2
  have HL := Lib.hid (fun cl => rlast_any b g cap r v ms cl hgd w)
  have HS := Lib.hid (fun cl => rsum_any b g cap r v ms cl hgd)
  have HG := Lib.hid hgd
  have hln := hgd.len2
  obtain ⟨hbl1, hbl2⟩ := hgd.bal ms.length (Nat.le_refl _)
  clear hgd h1 h2
  go_enter Try.func35, Try.ntmps35
  go_wp2_with fail
  refine H1.mono ?_
  rintro e w' ⟨rfl, rfl⟩
  go_wp2_with fail
  refine (HL.out _ hA).mono ?_
  rintro e w1 ⟨rfl, hB⟩
  have hA1 := hA.below hB
  have k2 := hA1.c2
  clear c2 c3
  go_wp2_with fail
  go_ret
  exact ⟨rfl, hB⟩

set_option maxRecDepth 100000 in
set_option maxHeartbeats 400000 in
theorem rreceive_many (b g cap : Nat) (r v : Int) (ms : List (Int × Int)) (hgd : Good ms) (d u : Int) (h : okDU d u) (hx : dayAt ms (ms.length - 1) ≤ d) (hy : 1000 ≤ ms.length) (w : World) (hA : RAcc w b g cap r v ms false) :
    Calls Try.prog 35 #[.pointer (some ⟨b, 0, none⟩), .int .i64 d, .int .i64 u] w fun e w' => e = .returned (.int .i64 2) ∧ Below w.heap.size w w' := by
  obtain ⟨⟨h1, h2⟩, h3, h4⟩ := h
  have H1 := rDay_yes d w h1 h2
  have c3 := hA.c3
  have c2 := hA.c2
  have HL := Lib.hid (fun cl => rlast_any b g cap r v ms cl hgd w)
  have HS := Lib.hid (fun cl => rsum_any b g cap r v ms cl hgd)
  have HG := Lib.hid hgd
  have hln := hgd.len2
  obtain ⟨hbl1, hbl2⟩ := hgd.bal ms.length (Nat.le_refl _)
  clear hgd h1 h2
  go_enter Try.func35, Try.ntmps35
  go_wp2_with fail
  refine H1.mono ?_
  rintro e w' ⟨rfl, rfl⟩
  go_wp2_with fail
  refine (HL.out _ hA).mono ?_
  rintro e w1 ⟨rfl, hB⟩
  have hA1 := hA.below hB
  have k2 := hA1.c2
  clear c2 c3
  go_wp2_with fail
  go_ret
  exact ⟨rfl, hB⟩

set_option maxRecDepth 100000 in
set_option maxHeartbeats 400000 in
theorem rreceive_great (b g cap : Nat) (r v : Int) (ms : List (Int × Int)) (hgd : Good ms) (d u : Int) (h : okDU d u) (hx : dayAt ms (ms.length - 1) ≤ d) (hy : ms.length < 1000) (hz : 1000000000000 < balTo ms ms.length + u) (w : World) (hA : RAcc w b g cap r v ms false) :
    Calls Try.prog 35 #[.pointer (some ⟨b, 0, none⟩), .int .i64 d, .int .i64 u] w fun e w' => e = .returned (.int .i64 2) ∧ Below w.heap.size w w' := by
  obtain ⟨⟨h1, h2⟩, h3, h4⟩ := h
  have H1 := rDay_yes d w h1 h2
  have c3 := hA.c3
  have c2 := hA.c2
  have HL := Lib.hid (fun cl => rlast_any b g cap r v ms cl hgd w)
  have HS := Lib.hid (fun cl => rsum_any b g cap r v ms cl hgd)
  have HG := Lib.hid hgd
  have hln := hgd.len2
  obtain ⟨hbl1, hbl2⟩ := hgd.bal ms.length (Nat.le_refl _)
  clear hgd h1 h2
  go_enter Try.func35, Try.ntmps35
  go_wp2_with fail
  refine H1.mono ?_
  rintro e w' ⟨rfl, rfl⟩
  go_wp2_with fail
  refine (HL.out _ hA).mono ?_
  rintro e w1 ⟨rfl, hB⟩
  have hA1 := hA.below hB
  have k2 := hA1.c2
  clear c2 c3
  go_wp2_with fail
  refine (HS.out _ _ hA1).mono ?_
  rintro e w' ⟨rfl, rfl⟩
  go_wp2_with fail
  go_ret
  exact ⟨rfl, hB⟩

set_option maxRecDepth 100000 in
set_option maxHeartbeats 400000 in
theorem rmove_closed (b g cap : Nat) (r v : Int) (ms : List (Int × Int)) (hgd : Good ms) (d u : Int) (h : okDU d u) (lic : Bool) (w : World) (hA : RAcc w b g cap r v ms true) :
    Calls Try.prog 36 #[.pointer (some ⟨b, 0, none⟩), .int .i64 d, .int .i64 u, .bool lic] w fun e w' => e = .returned (.int .i64 29) ∧ Below w.heap.size w w' := by
  obtain ⟨⟨h1, h2⟩, h3, h4⟩ := h
  have H1 := rDay_yes d w h1 h2
  have c3 := hA.c3
  have c2 := hA.c2
  have HL := Lib.hid (fun cl => rlast_any b g cap r v ms cl hgd w)
  have HS := Lib.hid (fun cl => rsum_any b g cap r v ms cl hgd)
  have HG := Lib.hid hgd
  have hln := hgd.len2
  obtain ⟨hbl1, hbl2⟩ := hgd.bal ms.length (Nat.le_refl _)
  clear hgd h1 h2
  go_enter Try.func36, Try.ntmps36
  go_wp2_with fail
  refine H1.mono ?_
  rintro e w' ⟨rfl, rfl⟩
  go_wp2_with fail
  go_ret
  exact ⟨rfl, Below.refl _ _⟩

set_option maxRecDepth 100000 in
set_option maxHeartbeats 400000 in
theorem rmove_unlicensed (b g cap : Nat) (r v : Int) (ms : List (Int × Int)) (hgd : Good ms) (d u : Int) (h : okDU d u) (w : World) (hA : RAcc w b g cap r v ms false) :
    Calls Try.prog 36 #[.pointer (some ⟨b, 0, none⟩), .int .i64 d, .int .i64 u, .bool false] w fun e w' => e = .returned (.int .i64 20) ∧ Below w.heap.size w w' := by
  obtain ⟨⟨h1, h2⟩, h3, h4⟩ := h
  have H1 := rDay_yes d w h1 h2
  have c3 := hA.c3
  have c2 := hA.c2
  have HL := Lib.hid (fun cl => rlast_any b g cap r v ms cl hgd w)
  have HS := Lib.hid (fun cl => rsum_any b g cap r v ms cl hgd)
  have HG := Lib.hid hgd
  have hln := hgd.len2
  obtain ⟨hbl1, hbl2⟩ := hgd.bal ms.length (Nat.le_refl _)
  clear hgd h1 h2
  go_enter Try.func36, Try.ntmps36
  go_wp2_with fail
  refine H1.mono ?_
  rintro e w' ⟨rfl, rfl⟩
  go_wp2_with fail
  go_ret
  exact ⟨rfl, Below.refl _ _⟩

set_option maxRecDepth 100000 in
set_option maxHeartbeats 400000 in
theorem rmove_early (b g cap : Nat) (r v : Int) (ms : List (Int × Int)) (hgd : Good ms) (d u : Int) (h : okDU d u) (hx : d < dayAt ms (ms.length - 1)) (w : World) (hA : RAcc w b g cap r v ms false) :
    Calls Try.prog 36 #[.pointer (some ⟨b, 0, none⟩), .int .i64 d, .int .i64 u, .bool true] w fun e w' => e = .returned (.int .i64 14) ∧ Below w.heap.size w w' := by
  obtain ⟨⟨h1, h2⟩, h3, h4⟩ := h
  have H1 := rDay_yes d w h1 h2
  have c3 := hA.c3
  have c2 := hA.c2
  have HL := Lib.hid (fun cl => rlast_any b g cap r v ms cl hgd w)
  have HS := Lib.hid (fun cl => rsum_any b g cap r v ms cl hgd)
  have HG := Lib.hid hgd
  have hln := hgd.len2
  obtain ⟨hbl1, hbl2⟩ := hgd.bal ms.length (Nat.le_refl _)
  clear hgd h1 h2
  go_enter Try.func36, Try.ntmps36
  go_wp2_with fail
  refine H1.mono ?_
  rintro e w' ⟨rfl, rfl⟩
  go_wp2_with fail
  refine (HL.out _ hA).mono ?_
  rintro e w1 ⟨rfl, hB⟩
  have hA1 := hA.below hB
  have k2 := hA1.c2
  clear c2 c3
  go_wp2_with fail
  go_ret
  exact ⟨rfl, hB⟩

set_option maxRecDepth 100000 in
set_option maxHeartbeats 400000 in
theorem rmove_over (b g cap : Nat) (r v : Int) (ms : List (Int × Int)) (hgd : Good ms) (d u : Int) (h : okDU d u) (hx : dayAt ms (ms.length - 1) ≤ d) (hz : balTo ms ms.length < u) (w : World) (hA : RAcc w b g cap r v ms false) :
    Calls Try.prog 36 #[.pointer (some ⟨b, 0, none⟩), .int .i64 d, .int .i64 u, .bool true] w fun e w' => e = .returned (.int .i64 21) ∧ Below w.heap.size w w' := by
  obtain ⟨⟨h1, h2⟩, h3, h4⟩ := h
  have H1 := rDay_yes d w h1 h2
  have c3 := hA.c3
  have c2 := hA.c2
  have HL := Lib.hid (fun cl => rlast_any b g cap r v ms cl hgd w)
  have HS := Lib.hid (fun cl => rsum_any b g cap r v ms cl hgd)
  have HG := Lib.hid hgd
  have hln := hgd.len2
  obtain ⟨hbl1, hbl2⟩ := hgd.bal ms.length (Nat.le_refl _)
  clear hgd h1 h2
  go_enter Try.func36, Try.ntmps36
  go_wp2_with fail
  refine H1.mono ?_
  rintro e w' ⟨rfl, rfl⟩
  go_wp2_with fail
  refine (HL.out _ hA).mono ?_
  rintro e w1 ⟨rfl, hB⟩
  have hA1 := hA.below hB
  have k2 := hA1.c2
  clear c2 c3
  go_wp2_with fail
  refine (HS.out _ _ hA1).mono ?_
  rintro e w' ⟨rfl, rfl⟩
  go_wp2_with fail
  go_ret
  exact ⟨rfl, hB⟩

set_option maxRecDepth 100000 in
set_option maxHeartbeats 400000 in
theorem rmove_many (b g cap : Nat) (r v : Int) (ms : List (Int × Int)) (hgd : Good ms) (d u : Int) (h : okDU d u) (hx : dayAt ms (ms.length - 1) ≤ d) (hz : u ≤ balTo ms ms.length) (hy : 1000 ≤ ms.length) (w : World) (hA : RAcc w b g cap r v ms false) :
    Calls Try.prog 36 #[.pointer (some ⟨b, 0, none⟩), .int .i64 d, .int .i64 u, .bool true] w fun e w' => e = .returned (.int .i64 2) ∧ Below w.heap.size w w' := by
  obtain ⟨⟨h1, h2⟩, h3, h4⟩ := h
  have H1 := rDay_yes d w h1 h2
  have c3 := hA.c3
  have c2 := hA.c2
  have HL := Lib.hid (fun cl => rlast_any b g cap r v ms cl hgd w)
  have HS := Lib.hid (fun cl => rsum_any b g cap r v ms cl hgd)
  have HG := Lib.hid hgd
  have hln := hgd.len2
  obtain ⟨hbl1, hbl2⟩ := hgd.bal ms.length (Nat.le_refl _)
  clear hgd h1 h2
  go_enter Try.func36, Try.ntmps36
  go_wp2_with fail
  refine H1.mono ?_
  rintro e w' ⟨rfl, rfl⟩
  go_wp2_with fail
  refine (HL.out _ hA).mono ?_
  rintro e w1 ⟨rfl, hB⟩
  have hA1 := hA.below hB
  have k2 := hA1.c2
  clear c2 c3
  go_wp2_with fail
  refine (HS.out _ _ hA1).mono ?_
  rintro e w' ⟨rfl, rfl⟩
  go_wp2_with fail
  go_ret
  exact ⟨rfl, hB⟩

set_option maxRecDepth 100000 in
set_option maxHeartbeats 400000 in
theorem rreceive_ok (b g cap : Nat) (r v : Int) (ms : List (Int × Int)) (hgd : Good ms) (d u : Int) (h : okDU d u) (hx : dayAt ms (ms.length - 1) ≤ d) (hy : ms.length < 1000) (hz : balTo ms ms.length + u ≤ 1000000000000) (w : World) (hA : RAcc w b g cap r v ms false) :
    Calls Try.prog 35 #[.pointer (some ⟨b, 0, none⟩), .int .i64 d, .int .i64 u] w fun e w' => e = .returned (.int .i64 0) ∧ ∃ g' cap', RAcc w' b g' cap' r v (ms ++ [(d, u)]) false ∧ Chg [b, g] w w' ∧ (g' = g ∨ w.heap.size ≤ g') := by
  obtain ⟨it, hti, hz0, hz1, hz2⟩ := info_parts Try.info67
  obtain ⟨⟨h1, h2⟩, h3, h4⟩ := h
  have H1 := rDay_yes d w h1 h2
  have c3 := hA.c3
  have c2 := hA.c2
  have HL := Lib.hid (fun cl => rlast_any b g cap r v ms cl hgd w)
  have HS := Lib.hid (fun cl => rsum_any b g cap r v ms cl hgd)
  have HG := Lib.hid hgd
  have hln := hgd.len2
  obtain ⟨hbl1, hbl2⟩ := hgd.bal ms.length (Nat.le_refl _)
  clear hgd h1 h2
  go_enter Try.func35, Try.ntmps35
  go_wp2_with fail
  refine H1.mono ?_
  rintro e w' ⟨rfl, rfl⟩
  go_wp2_with fail
  refine (HL.out _ hA).mono ?_
  rintro e w1 ⟨rfl, hB⟩
  have hA1 := hA.below hB
  have k2 := hA1.c2
  clear c2 c3
  go_wp2_with fail
  refine (HS.out _ _ hA1).mono ?_
  rintro e w' ⟨rfl, rfl⟩
  have HA2 : Hid (RAcc (w1.alloc (.cells #[.int .i64 d, .int .i64 u] 67)) b g cap r v ms false) := hA1.below ((Below.refl _ w1).alloc (Nat.le_refl _) _)
  have hwb := hA.blt
  have hs1 := hB.size
  go_wp2_with (at_builtin; refine wpList_append_lies _ rfl (.tmp 47) (.tmp 51) 68 rfl 0 67 it (.agg #[.int .i64 0, .int .i64 0]) 2 16 Try.underlying68 hti hz0 hz1 hz2 rfl (by decide) _ ms.length (flat ms) rfl HA2.out.own ⟨w1.heap.size, 0, none⟩ 1 1 [.int .i64 d, .int .i64 u] rfl rfl (cell_two_new _ _ _ _) (by simp [Value.oneCell']) (by decide) (by unfold maxLen; omega) (by omega) (Nat.zero_le _) _ rfl ?_)
  intro g2 cap2 w6 hown2 hgrow2 hat hlt2
  have hcb : w6.cell? ⟨b, 2, none⟩ = some (.slice (some ⟨g, 0, none⟩) ms.length cap) := (hgrow2.cell_far ⟨b, 2, none⟩ HA2.out.blt (by have := hA.ne; simp [Value.ownBlock]; omega)).trans HA2.out.c2
  have hfb : w6.frozen? ⟨b, 2, none⟩ = false := (hgrow2.frozen_far ⟨b, 2, none⟩ HA2.out.blt (by have := hA.ne; simp [Value.ownBlock]; omega)).trans (HA2.out.fr 2)
  have hfin := HA2.out.appended hown2 hgrow2 hat (by simp)
  have hch : Chg [b, g] w (w6.setCell ⟨b, 2, none⟩ (.slice (some ⟨g2, 0, none⟩) (ms.length + 1) cap2)) := (((Below.chg hB [b, g]).alloc _).grown hgrow2 (.inl (by simp))).setCell (.inl (by simp)) _
  have hgg : g2 = g ∨ w.heap.size ≤ g2 := by
    rcases hat with e | e
    · exact .inl (Option.some.inj (show some g = some g2 from e)).symm
    · right; first | omega | (simp at e; omega)
  clear hat hown2 hgrow2
  go_wp2_with fail
  go_ret
  exact ⟨rfl, g2, cap2, hfin, hch, hgg⟩

set_option maxRecDepth 100000 in
set_option maxHeartbeats 400000 in
theorem rmove_ok (b g cap : Nat) (r v : Int) (ms : List (Int × Int)) (hgd : Good ms) (d u : Int) (h : okDU d u) (hx : dayAt ms (ms.length - 1) ≤ d) (hz : u ≤ balTo ms ms.length) (hy : ms.length < 1000) (w : World) (hA : RAcc w b g cap r v ms false) :
    Calls Try.prog 36 #[.pointer (some ⟨b, 0, none⟩), .int .i64 d, .int .i64 u, .bool true] w fun e w' => e = .returned (.int .i64 0) ∧ ∃ g' cap', RAcc w' b g' cap' r v (ms ++ [(d, (-u))]) false ∧ Chg [b, g] w w' ∧ (g' = g ∨ w.heap.size ≤ g') := by
  obtain ⟨it, hti, hz0, hz1, hz2⟩ := info_parts Try.info67
  obtain ⟨⟨h1, h2⟩, h3, h4⟩ := h
  have H1 := rDay_yes d w h1 h2
  have c3 := hA.c3
  have c2 := hA.c2
  have HL := Lib.hid (fun cl => rlast_any b g cap r v ms cl hgd w)
  have HS := Lib.hid (fun cl => rsum_any b g cap r v ms cl hgd)
  have HG := Lib.hid hgd
  have hln := hgd.len2
  obtain ⟨hbl1, hbl2⟩ := hgd.bal ms.length (Nat.le_refl _)
  clear hgd h1 h2
  go_enter Try.func36, Try.ntmps36
  go_wp2_with fail
  refine H1.mono ?_
  rintro e w' ⟨rfl, rfl⟩
  go_wp2_with fail
  refine (HL.out _ hA).mono ?_
  rintro e w1 ⟨rfl, hB⟩
  have hA1 := hA.below hB
  have k2 := hA1.c2
  clear c2 c3
  go_wp2_with fail
  refine (HS.out _ _ hA1).mono ?_
  rintro e w' ⟨rfl, rfl⟩
  have HA2 : Hid (RAcc (w1.alloc (.cells #[.int .i64 d, .int .i64 (-u)] 67)) b g cap r v ms false) := hA1.below ((Below.refl _ w1).alloc (Nat.le_refl _) _)
  have hwb := hA.blt
  have hs1 := hB.size
  go_wp2_with (at_builtin; refine wpList_append_lies _ rfl (.tmp 48) (.tmp 53) 68 rfl 0 67 it (.agg #[.int .i64 0, .int .i64 0]) 2 16 Try.underlying68 hti hz0 hz1 hz2 rfl (by decide) _ ms.length (flat ms) rfl HA2.out.own ⟨w1.heap.size, 0, none⟩ 1 1 [.int .i64 d, .int .i64 (-u)] rfl rfl (cell_two_new _ _ _ _) (by simp [Value.oneCell']) (by decide) (by unfold maxLen; omega) (by omega) (Nat.zero_le _) _ rfl ?_)
  intro g2 cap2 w6 hown2 hgrow2 hat hlt2
  have hcb : w6.cell? ⟨b, 2, none⟩ = some (.slice (some ⟨g, 0, none⟩) ms.length cap) := (hgrow2.cell_far ⟨b, 2, none⟩ HA2.out.blt (by have := hA.ne; simp [Value.ownBlock]; omega)).trans HA2.out.c2
  have hfb : w6.frozen? ⟨b, 2, none⟩ = false := (hgrow2.frozen_far ⟨b, 2, none⟩ HA2.out.blt (by have := hA.ne; simp [Value.ownBlock]; omega)).trans (HA2.out.fr 2)
  have hfin := HA2.out.appended hown2 hgrow2 hat (by simp)
  have hch : Chg [b, g] w (w6.setCell ⟨b, 2, none⟩ (.slice (some ⟨g2, 0, none⟩) (ms.length + 1) cap2)) := (((Below.chg hB [b, g]).alloc _).grown hgrow2 (.inl (by simp))).setCell (.inl (by simp)) _
  have hgg : g2 = g ∨ w.heap.size ≤ g2 := by
    rcases hat with e | e
    · exact .inl (Option.some.inj (show some g = some g2 from e)).symm
    · right; first | omega | (simp at e; omega)
  clear hat hown2 hgrow2
  go_wp2_with fail
  go_ret
  exact ⟨rfl, g2, cap2, hfin, hch, hgg⟩
end Go.Proofs.Ytodnnfdglkidgaa
