/- The reference account: Correct, and a step. -/
import Derived.Test.YtodnnfdglkidgaaRc
set_option linter.unusedVariables false
namespace Go.Proofs.Ytodnnfdglkidgaa
open Go.RowKit Go.Shelf

theorem rreceive_all (b g cap : Nat) (r v : Int) (ms : List (Int × Int)) (cl : Bool) (hgd : Good ms) (d u : Int) (w : World) (hA : RAcc w b g cap r v ms cl) :
    Calls Try.prog 35 #[.pointer (some ⟨b, 0, none⟩), .int .i64 d, .int .i64 u] w (RDid b g r v (if recE cl ms d u = 0 then ms ++ [(d, u)] else ms) cl (recE cl ms d u) w) := by
  by_cases h : okDU d u
  · have hE : recE cl ms d u = errAdd cl true ms d u := by simp only [recE]; rw [if_pos h]
    rw [errAdd_in hgd cl h.2.1] at hE
    cases cl
    · by_cases h1 : d < dayAt ms (ms.length - 1)
      · have e : recE false ms d u = 14 := by rw [hE]; simp [h1]
        rw [e, if_neg (by decide)]
        exact (rreceive_early b g cap r v ms hgd d u h h1 w hA).mono fun _ _ x => rdid_same hA x.1 x.2
      · by_cases h2 : 1000 ≤ ms.length
        · have e : recE false ms d u = 2 := by rw [hE]; simp [h1, h2]
          rw [e, if_neg (by decide)]
          exact (rreceive_many b g cap r v ms hgd d u h (by omega) h2 w hA).mono fun _ _ x => rdid_same hA x.1 x.2
        · by_cases h3 : 1000000000000 < balTo ms ms.length + u
          · have e : recE false ms d u = 2 := by rw [hE]; simp [h1, h3]
            rw [e, if_neg (by decide)]
            exact (rreceive_great b g cap r v ms hgd d u h (by omega) (by omega) h3 w hA).mono fun _ _ x => rdid_same hA x.1 x.2
          · have e : recE false ms d u = 0 := by rw [hE]; simp [h1, h2, h3]
            rw [e, if_pos rfl]
            exact (rreceive_ok b g cap r v ms hgd d u h (by omega) (by omega) (by omega) w hA).mono fun _ _ x => x
    · have e : recE true ms d u = 29 := by rw [hE]; simp
      rw [e, if_neg (by decide)]
      exact (rreceive_closed b g cap r v ms hgd d u h w hA).mono fun _ _ x => rdid_same hA x.1 x.2
  · have hE : recE cl ms d u = 1 := by simp only [recE]; rw [if_neg h]
    rw [hE, if_neg (by decide)]
    exact (rreceive_arg _ d u w h).mono fun e w' hh => rdid_same hA hh.1 (hh.2 ▸ Below.refl _ _)
theorem rmove_all (b g cap : Nat) (r v : Int) (ms : List (Int × Int)) (cl : Bool) (hgd : Good ms) (d u : Int) (lic : Bool) (w : World) (hA : RAcc w b g cap r v ms cl) :
    Calls Try.prog 36 #[.pointer (some ⟨b, 0, none⟩), .int .i64 d, .int .i64 u, .bool lic] w (RDid b g r v (if movE cl lic ms d u = 0 then ms ++ [(d, -u)] else ms) cl (movE cl lic ms d u) w) := by
  by_cases h : okDU d u
  · have hE : movE cl lic ms d u = errAdd cl lic ms d (-u) := by simp only [movE]; rw [if_pos h]
    rw [errAdd_out hgd cl lic h.2.1] at hE
    cases cl
    · cases lic
      · have e : movE false false ms d u = 20 := by rw [hE]; simp
        rw [e, if_neg (by decide)]
        exact (rmove_unlicensed b g cap r v ms hgd d u h w hA).mono fun _ _ x => rdid_same hA x.1 x.2
      · by_cases h1 : d < dayAt ms (ms.length - 1)
        · have e : movE false true ms d u = 14 := by rw [hE]; simp [h1]
          rw [e, if_neg (by decide)]
          exact (rmove_early b g cap r v ms hgd d u h h1 w hA).mono fun _ _ x => rdid_same hA x.1 x.2
        · by_cases h2 : balTo ms ms.length < u
          · have e : movE false true ms d u = 21 := by rw [hE]; simp [h1, h2]
            rw [e, if_neg (by decide)]
            exact (rmove_over b g cap r v ms hgd d u h (by omega) h2 w hA).mono fun _ _ x => rdid_same hA x.1 x.2
          · by_cases h3 : 1000 ≤ ms.length
            · have e : movE false true ms d u = 2 := by rw [hE]; simp [h1, h2, h3]
              rw [e, if_neg (by decide)]
              exact (rmove_many b g cap r v ms hgd d u h (by omega) (by omega) h3 w hA).mono fun _ _ x => rdid_same hA x.1 x.2
            · have e : movE false true ms d u = 0 := by rw [hE]; simp [h1, h2, h3]
              rw [e, if_pos rfl]
              exact (rmove_ok b g cap r v ms hgd d u h (by omega) (by omega) (by omega) w hA).mono fun _ _ x => x
    · have e : movE true lic ms d u = 29 := by rw [hE]; simp
      rw [e, if_neg (by decide)]
      exact (rmove_closed b g cap r v ms hgd d u h lic w hA).mono fun _ _ x => rdid_same hA x.1 x.2
  · have hE : movE cl lic ms d u = 1 := by simp only [movE]; rw [if_neg h]
    rw [hE, if_neg (by decide)]
    exact (rmove_arg _ d u lic w h).mono fun e w' hh => rdid_same hA hh.1 (hh.2 ▸ Below.refl _ _)

theorem Acc.fix {ta tm : TypeId} {w : World} {b g cap : Nat} {r v : Int} {ms : List (Int × Int)} {cl : Bool} (h : Acc ta tm w b g cap r v ms cl) (i : Nat) (hi : i < ms.length) (u : Int) :
    Acc ta tm (w.setCell ⟨g, i * 2 + 1, none⟩ (.int .i64 u)) b g cap r v (fixed ms i u) cl := by
  obtain ⟨h1, h2⟩ := h.own.stored (i * 2 + 1) (.int .i64 u)
  refine ⟨by rw [Below.heap_setCell _ _ _ _ h.ne.symm, fixed_length]; exact h.blk, ?_, h.ne⟩
  rw [fixed_length, flat_fixed ms u i hi]
  exact h1

set_option maxHeartbeats 400000 in
theorem rcorrect_arg (p : Addr) (i u : Int) (w : World) (h : ¬ (-1000000000000 ≤ u ∧ u ≤ 1000000000000)) : Calls Try.prog 37 #[.pointer (some p), .int .i64 i, .int .i64 u] w fun e w' => e = .returned (.int .i64 1) ∧ w = w' := by
  by_cases h1 : u < -1000000000000
  · clear h
    go_enter Try.func37, Try.ntmps37
    go_wp2
    go_ret
    exact ⟨rfl, rfl⟩
  · have h2 : 1000000000000 < u := by omega
    have h3 : decide (u < -1000000000000) = false := by simp; omega
    clear h
    go_enter Try.func37, Try.ntmps37
    go_wp2
    go_ret
    exact ⟨rfl, rfl⟩
set_option maxHeartbeats 400000 in
theorem rcorrect_closed (b g cap : Nat) (r v : Int) (ms : List (Int × Int)) (i u : Int) (h1 : -1000000000000 ≤ u) (h2 : u ≤ 1000000000000) (w : World) (hA : RAcc w b g cap r v ms true) :
    Calls Try.prog 37 #[.pointer (some ⟨b, 0, none⟩), .int .i64 i, .int .i64 u] w fun e w' => e = .returned (.int .i64 29) ∧ w = w' := by
  have c3 := hA.c3
  go_enter Try.func37, Try.ntmps37
  go_wp2
  go_ret
  exact ⟨rfl, rfl⟩
set_option maxHeartbeats 400000 in
theorem rcorrect_none (b g cap : Nat) (r v : Int) (ms : List (Int × Int)) (hm : ms.length ≤ 2000) (i u : Int) (h1 : -1000000000000 ≤ u) (h2 : u ≤ 1000000000000) (hi : ¬ (0 ≤ i ∧ i < (ms.length : Int))) (w : World) (hA : RAcc w b g cap r v ms false) :
    Calls Try.prog 37 #[.pointer (some ⟨b, 0, none⟩), .int .i64 i, .int .i64 u] w fun e w' => e = .returned (.int .i64 11) ∧ w = w' := by
  have c3 := hA.c3
  have c2 := hA.c2
  by_cases h0 : i < 0
  · clear hi
    go_enter Try.func37, Try.ntmps37
    go_wp2
    go_ret
    exact ⟨rfl, rfl⟩
  · have hi2 : (ms.length : Int) ≤ i := by omega
    clear hi
    go_enter Try.func37, Try.ntmps37
    go_wp2
    go_ret
    exact ⟨rfl, rfl⟩

set_option maxRecDepth 100000 in
set_option maxHeartbeats 1000000 in
theorem rcorrect_loop (b g cap : Nat) (r v : Int) (ms : List (Int × Int)) (hgd : Good ms) (i : Nat) (hi : i < ms.length) (u : Int) (h1 : -1000000000000 ≤ u) (h2 : u ≤ 1000000000000) (w : World) (hA : RAcc w b g cap r v ms false) :
    Calls Try.prog 37 #[.pointer (some ⟨b, 0, none⟩), .int .i64 i, .int .i64 u] w fun e w' =>
      (allIn (fixed ms i u) ∧ e = .returned (.int .i64 0) ∧ w' = w.setCell ⟨g, i * 2 + 1, none⟩ (.int .i64 u)) ∨ (¬ allIn (fixed ms i u) ∧ e = .returned (.int .i64 21) ∧ w' = w) := by
  have c3 := hA.c3
  have c2 := hA.c2
  have HU := Lib.hid hA.unit
  have HG := Lib.hid hgd
  have hl := hgd.len2
  have hm1 := hA.unit i hi
  have hm2 : w.frozen? ⟨g, i * 2 + 1, none⟩ = false := by
    obtain ⟨cur, hc⟩ : ∃ cur, w.heap[g]? = some (.cells cur 67 (0, 0)) := by
      rcases hA.own.2 with ⟨e, _⟩ | ⟨g', cap', cur, e, q1, q2, q3⟩
      · cases e
      · simp only [Value.slice.injEq, Option.some.injEq, Addr.mk.injEq, true_and, and_true] at e
        obtain ⟨rfl, rfl⟩ := e
        exact ⟨cur, q2⟩
    simp [World.frozen?, hc]
  have HI := Lib.hid (allIn_iff (fixed ms i u))
  have HB := Lib.hid (hgd.fixedBnd i hi u h1 h2).bal
  have HF := Lib.hid (fixed_length ms i u)
  have hS : Hid (∀ k, k < ms.length → balTo (fixed ms i u) (k + 1) = balTo (fixed ms i u) k + (if k = i then u else unitAt ms k)) := fun k hk => by
    rw [balTo_succ _ k (by rw [fixed_length]; exact hk)]
    congr 1
    by_cases e : k = i
    · subst e; simp [unitAt, fixed, hk]
    · rw [if_neg e]; simp [unitAt, fixed, List.getElem?_set_ne (Ne.symm e)]
  have hi' : (i : Int) < (ms.length : Int) := by omega
  clear hgd hA
  go_enter Try.func37, Try.ntmps37
  go_wp2_with fail
  go_loop [7, 8, 9] (fun n k _ => ∃ j : Nat, j ≤ ms.length ∧ k = .int .i64 j ∧ n = .int .i64 (balTo (fixed ms i u) j) ∧ ∀ q, 1 ≤ q → q ≤ j → 0 ≤ balTo (fixed ms i u) q ∧ balTo (fixed ms i u) q ≤ 1000000000000) (fun _ k _ => ms.length - (intOf k).toNat)
  case atStart => exact ⟨0, Nat.zero_le _, rfl, by rw [balTo_zero], fun q a b => by omega⟩
  case round =>
    obtain ⟨j, hj, rfl, rfl, hok⟩ := hrel
    have Hok := Lib.hid hok
    clear hok
    by_cases hjl : j < ms.length
    · have hx := HB.out (j + 1) (by rw [HF.out]; omega)
      obtain ⟨y1, y2⟩ := HB.out j (by rw [HF.out]; omega)
      have S := Lib.hid (hS.out j hjl)
      have hu := HU.out j hjl
      obtain ⟨y5, y6⟩ := HG.out.unit j hjl
      by_cases hji : j = i
      · subst hji
        have S2 : Hid (balTo (fixed ms j u) (j + 1) = balTo (fixed ms j u) j + u) := by have := S.out; rw [if_pos rfl] at this; exact this
        rw [S2.out] at hx
        obtain ⟨y3, y4⟩ := hx
        have hbb : ((j : Int) == (j : Int)) = true := by simp
        have HNf : Hid (0 ≤ balTo (fixed ms j u) j + u ∧ balTo (fixed ms j u) j + u ≤ 1000000000000 → ∀ q, 1 ≤ q → q ≤ j + 1 → 0 ≤ balTo (fixed ms j u) q ∧ balTo (fixed ms j u) q ≤ 1000000000000) := fun hin q a b => by
          by_cases e : q = j + 1
          · subst e; rw [S2.out]; exact hin
          · exact Hok.out q a (by omega)
        by_cases hin : 0 ≤ balTo (fixed ms j u) j + u ∧ balTo (fixed ms j u) j + u ≤ 1000000000000
        · have HN := Lib.hid (HNf.out hin)
          obtain ⟨q1, q2⟩ := hin
          go_wp2_with fail
          go_round
          case rel =>
            (repeat apply Exists.intro)
            exact ⟨⟨j + 1, by omega, by simp, by rw [S2.out], HN.out⟩, rfl, rfl, rfl⟩
          case measure => simp [intOf]; omega
        · have Hbad : Hid (¬ allIn (fixed ms j u)) := fun ha => hin (by have := (HI.out.1 ha) (j + 1) (by omega) (by rw [HF.out]; omega); rwa [S2.out] at this)
          by_cases hlo : balTo (fixed ms j u) j + u < 0
          · clear hin
            go_wp2_with fail
            go_ret
            exact .inr ⟨Hbad.out, rfl, rfl⟩
          · have hhi : 1000000000000 < balTo (fixed ms j u) j + u := by omega
            have hlo' : decide (balTo (fixed ms j u) j + u < 0) = false := by simp; omega
            clear hin
            go_wp2_with fail
            go_ret
            exact .inr ⟨Hbad.out, rfl, rfl⟩
      · have S2 : Hid (balTo (fixed ms i u) (j + 1) = balTo (fixed ms i u) j + unitAt ms j) := by have := S.out; rw [if_neg hji] at this; exact this
        rw [S2.out] at hx
        obtain ⟨y3, y4⟩ := hx
        have hbb : ((j : Int) == (i : Int)) = false := by simp; omega
        clear hji
        have HNf : Hid (0 ≤ balTo (fixed ms i u) j + unitAt ms j ∧ balTo (fixed ms i u) j + unitAt ms j ≤ 1000000000000 → ∀ q, 1 ≤ q → q ≤ j + 1 → 0 ≤ balTo (fixed ms i u) q ∧ balTo (fixed ms i u) q ≤ 1000000000000) := fun hin q a b => by
          by_cases e : q = j + 1
          · subst e; rw [S2.out]; exact hin
          · exact Hok.out q a (by omega)
        by_cases hin : 0 ≤ balTo (fixed ms i u) j + unitAt ms j ∧ balTo (fixed ms i u) j + unitAt ms j ≤ 1000000000000
        · have HN := Lib.hid (HNf.out hin)
          obtain ⟨q1, q2⟩ := hin
          go_wp2_with fail
          go_round
          case rel =>
            (repeat apply Exists.intro)
            exact ⟨⟨j + 1, by omega, by simp, by rw [S2.out], HN.out⟩, rfl, rfl, rfl⟩
          case measure => simp [intOf]; omega
        · have Hbad : Hid (¬ allIn (fixed ms i u)) := fun ha => hin (by have := (HI.out.1 ha) (j + 1) (by omega) (by rw [HF.out]; omega); rwa [S2.out] at this)
          by_cases hlo : balTo (fixed ms i u) j + unitAt ms j < 0
          · clear hin
            go_wp2_with fail
            go_ret
            exact .inr ⟨Hbad.out, rfl, rfl⟩
          · have hhi : 1000000000000 < balTo (fixed ms i u) j + unitAt ms j := by omega
            have hlo' : decide (balTo (fixed ms i u) j + unitAt ms j < 0) = false := by simp; omega
            clear hin
            go_wp2_with fail
            go_ret
            exact .inr ⟨Hbad.out, rfl, rfl⟩
    · obtain rfl : j = ms.length := by omega
      have Hall : Hid (allIn (fixed ms i u)) := HI.out.2 (fun k a b => Hok.out k a (by rw [HF.out] at b; exact b))
      clear Hok
      go_wp2_with fail
      go_ret
      exact .inl ⟨Hall.out, rfl, rfl⟩

theorem rcorrect_all (b g cap : Nat) (r v : Int) (ms : List (Int × Int)) (cl : Bool) (hgd : Good ms) (i u : Int) (w : World) (hA : RAcc w b g cap r v ms cl) :
    Calls Try.prog 37 #[.pointer (some ⟨b, 0, none⟩), .int .i64 i, .int .i64 u] w (RDid b g r v (if corE cl ms i u = 0 then fixed ms i.toNat u else ms) cl (corE cl ms i u) w) := by
  by_cases hu : -1000000000000 ≤ u ∧ u ≤ 1000000000000
  · cases cl
    · by_cases hi : 0 ≤ i ∧ i < (ms.length : Int)
      · obtain ⟨k, rfl⟩ := Int.eq_ofNat_of_zero_le hi.1
        rw [Int.toNat_natCast]
        have hk : k < ms.length := by omega
        refine (rcorrect_loop b g cap r v ms hgd k hk u hu.1 hu.2 w hA).mono ?_
        rintro e w' (⟨ha, rfl, rfl⟩ | ⟨ha, rfl, rfl⟩)
        · have hE : corE false ms k u = 0 := by simp [corE, hu, hi.2, ha]
          rw [hE, if_pos rfl]
          exact ⟨rfl, g, cap, hA.fix k hk u, (Chg.refl _ _).setCell (.inl (by simp)) _, .inl rfl⟩
        · have hE : corE false ms k u = 21 := by simp [corE, hu, hi.2, ha]
          rw [hE, if_neg (by decide)]
          exact rdid_same hA rfl (Below.refl _ _)
      · have hE : corE false ms i u = 11 := by simp only [corE]; rw [if_pos hu, if_neg (by decide), if_neg hi]
        rw [hE, if_neg (by decide)]
        exact (rcorrect_none b g cap r v ms (by have := hgd.len2; omega) i u hu.1 hu.2 hi w hA).mono fun e w' h => rdid_same hA h.1 (h.2 ▸ Below.refl _ _)
    · have hE : corE true ms i u = 29 := by simp [corE, hu]
      rw [hE, if_neg (by decide)]
      exact (rcorrect_closed b g cap r v ms i u hu.1 hu.2 w hA).mono fun e w' h => rdid_same hA h.1 (h.2 ▸ Below.refl _ _)
  · have hE : corE cl ms i u = 1 := by simp only [corE]; rw [if_neg hu]
    rw [hE, if_neg (by decide)]
    exact (rcorrect_arg _ i u w hu).mono fun e w' h => rdid_same hA h.1 (h.2 ▸ Below.refl _ _)

theorem rdid_lift {b g : Nat} {r v : Int} {ms' : List (Int × Int)} {cl : Bool} {E : Int} {w w1 : World} (hB : Below w.heap.size w w1) {e : Ending} {w' : World} (h : RDid b g r v ms' cl E w1 e w') : RDid b g r v ms' cl E w e w' := by
  obtain ⟨he, g', cap', h1, h2, h3⟩ := h
  refine ⟨he, g', cap', h1, (Below.chg hB _).trans h2 (fun x hx => .inl hx), ?_⟩
  rcases h3 with h | h
  · exact .inl h
  · exact .inr (Nat.le_trans hB.size h)

set_option maxHeartbeats 1000000 in
theorem rdo_any (b g cap : Nat) (r v : Int) (ms : List (Int × Int)) (cl : Bool) (hgd : Good ms) (k d u : Int) (lic : Bool) (w : World) (hA : RAcc w b g cap r v ms cl) :
    Calls Try.prog 17 #[.pointer (some ⟨b, 0, none⟩), stp k d u lic] w (RDid b g r v (stepM cl ms k d u lic) cl (stepE cl ms k d u lic) w) := by
  have hB : Below w.heap.size w (w.alloc (.cells #[.int .i64 k, .int .i64 d, .int .i64 u, .bool lic] 30)) := (Below.refl _ w).alloc (Nat.le_refl _) _
  have hA1 := hA.below hB
  by_cases h0 : k = 0
  · subst h0
    have hM : Hid (stepM cl ms 0 d u lic = if recE cl ms d u = 0 then ms ++ [(d, u)] else ms) := by simp [Hid, stepM, stepE]
    have hE : Hid (stepE cl ms 0 d u lic = recE cl ms d u) := by simp [Hid, stepE]
    have H := Lib.hid (rreceive_all b g cap r v ms cl hgd d u _ hA1)
    clear hgd
    go_enter Try.func17, Try.ntmps17
    go_wp2_with fail
    refine H.out.mono ?_
    rintro e w' hd
    obtain ⟨he, hr⟩ := rdid_lift hB hd
    subst he
    clear hd
    go_wp2_with fail
    go_ret
    exact ⟨ret_int hE.out.symm, by rw [hM.out]; exact hr⟩
  · by_cases h1 : k = 1
    · subst h1
      have hM : Hid (stepM cl ms 1 d u lic = if movE cl lic ms d u = 0 then ms ++ [(d, -u)] else ms) := by simp [Hid, stepM, stepE]
      have hE : Hid (stepE cl ms 1 d u lic = movE cl lic ms d u) := by simp [Hid, stepE]
      have H := Lib.hid (rmove_all b g cap r v ms cl hgd d u lic _ hA1)
      clear hgd h0
      go_enter Try.func17, Try.ntmps17
      go_wp2_with fail
      refine H.out.mono ?_
      rintro e w' hd
      obtain ⟨he, hr⟩ := rdid_lift hB hd
      subst he
      clear hd
      go_wp2_with fail
      go_ret
      exact ⟨ret_int hE.out.symm, by rw [hM.out]; exact hr⟩
    · have hM : Hid (stepM cl ms k d u lic = if corE cl ms d u = 0 then fixed ms d.toNat u else ms) := by simp [Hid, stepM, stepE, h0, h1]
      have hE : Hid (stepE cl ms k d u lic = corE cl ms d u) := by simp [Hid, stepE, h0, h1]
      have H := Lib.hid (rcorrect_all b g cap r v ms cl hgd d u _ hA1)
      have k0 : (k == 0) = false := by simp [h0]
      have k1 : (k == 1) = false := by simp [h1]
      clear hgd h0 h1
      go_enter Try.func17, Try.ntmps17
      go_wp2_with fail
      refine H.out.mono ?_
      rintro e w' hd
      obtain ⟨he, hr⟩ := rdid_lift hB hd
      subst he
      clear hd
      go_wp2_with fail
      go_ret
      exact ⟨ret_int hE.out.symm, by rw [hM.out]; exact hr⟩
end Go.Proofs.Ytodnnfdglkidgaa
