import Derived.Test.YtlchpdjpnabeiaaGreatDoorTrRefC
import Derived.Test.YtlchpdjpnabeiaaGreatDoorDgRefC
import Derived.Test.YtlchpdjpnabeiaaGreatDoorTrExtC
import Derived.BigQuiet
set_option linter.unusedVariables false
namespace Go.Proofs.YtlchpdjpnabeiaaGreatDoor
open Go Go.RowKit

theorem lenT_le (n : Nat) : ∀ i, lenT n i ≤ n := by
  induction n using Nat.strongRecOn with
  | _ n ih =>
    intro i
    rw [lenT]
    split
    · omega
    · have h2 := half_lt (n := n) (by omega)
      have h3 := half_pos (n := n) (by omega)
      split
      · have := ih (half n) h2 i; omega
      · have := ih (n - half n) (by omega) (i - half n); omega
theorem longT_le (n : Nat) : ∀ m wh, longT n m wh ≤ n + 1 := by
  induction n using Nat.strongRecOn with
  | _ n ih =>
    intro m wh
    rw [longT]
    split
    · cases wh <;> simp
    · have h2 := half_lt (n := n) (by omega)
      have h3 := half_pos (n := n) (by omega)
      split
      · have := ih (half n) h2 m wh; omega
      · have := ih (n - half n) (by omega) (m - half n) false; omega
theorem rlength_calls (n : Nat) : ∀ (i : Nat) (w : World), 1 ≤ n → n ≤ 1000000 → i < n →
    Calls Tryz.prog 33 #[.int .i64 (n : Int), .int .i64 (i : Int)] w fun e w' => e = .returned (.int .i64 (lenT n i : Int)) ∧ w' = w := by
  induction n using Nat.strongRecOn with
  | _ n ih =>
  intro i w hn1 hn hi
  by_cases h1 : n = 1
  · subst h1
    have HU := Lib.hid (len_one i)
    clear ih
    go_enter Tryz.func33, Tryz.ntmps33
    go_wp2
    go_ret
    exact ⟨by rw [HU.out]; rfl, rfl⟩
  · have h2 : 2 ≤ n := by omega
    have hk1 := half_lt h2
    have hk0 := half_pos h2
    have hh := fun W => rhalf_calls n h2 (by omega) W
    have HL := Lib.hid (lenT_many h2 i)
    have HIH := Lib.hid ih
    clear ih
    obtain ⟨k, hk⟩ : ∃ k, k = half n := ⟨_, rfl⟩
    rw [← hk] at hk1 hk0 hh HL
    clear hk
    have hnn : ((n : Int) == 1) = false := by rw [beq_eq_false_iff_ne]; omega
    by_cases hik : i < k
    · have hik' : (i : Int) < (k : Int) := by omega
      rw [if_pos hik] at HL
      have HC := Lib.hid (fun W => HIH.out k hk1 i W (by omega) (by omega) hik)
      have hlq := lenT_le k i
      generalize lenT k i = q at *
      clear HIH
      go_enter Tryz.func33, Tryz.ntmps33
      go_wp2_with fail
      refine (hh _).mono ?_
      rintro e w1 ⟨rfl, rfl⟩
      clear hh
      go_wp2_with fail
      refine (HC.out _).mono ?_
      rintro e w2 ⟨rfl, rfl⟩
      go_wp2
      go_ret
      exact ⟨by rw [HL.out]; go_num, rfl⟩
    · have hik' : ¬ (i : Int) < (k : Int) := by omega
      rw [if_neg hik] at HL
      have hC := (fun W => HIH.out (n - k) (by omega) (i - k) W (by omega) (by omega) (by omega))
      rw [show ((n - k : Nat) : Int) = (n : Int) - (k : Int) by omega, show ((i - k : Nat) : Int) = (i : Int) - (k : Int) by omega] at hC
      have HC := Lib.hid hC
      have hlq := lenT_le (n - k) (i - k)
      generalize lenT (n - k) (i - k) = q at *
      clear HIH hC
      go_enter Tryz.func33, Tryz.ntmps33
      go_wp2_with fail
      refine (hh _).mono ?_
      rintro e w1 ⟨rfl, rfl⟩
      clear hh
      go_wp2_with fail
      refine (HC.out _).mono ?_
      rintro e w2 ⟨rfl, rfl⟩
      go_wp2
      go_ret
      exact ⟨by rw [HL.out]; go_num, rfl⟩
theorem rlong_calls (n : Nat) : ∀ (m : Nat) (wh : Bool) (w : World), 1 ≤ m → m ≤ n → n ≤ 1000000 →
    Calls Tryz.prog 37 #[.int .i64 (n : Int), .int .i64 (m : Int), .bool wh] w fun e w' => e = .returned (.int .i64 (longT n m wh : Int)) ∧ w' = w := by
  induction n using Nat.strongRecOn with
  | _ n ih =>
  intro m wh w hm1 hmn hn
  by_cases h1 : m = n
  · subst h1
    have HU := Lib.hid (longT_end m wh)
    clear ih
    cases wh with
    | true =>
      go_enter Tryz.func37, Tryz.ntmps37
      go_wp2
      go_ret
      exact ⟨by rw [HU.out]; rfl, rfl⟩
    | false =>
      go_enter Tryz.func37, Tryz.ntmps37
      go_wp2
      go_ret
      exact ⟨by rw [HU.out]; rfl, rfl⟩
  · have h2 : 2 ≤ n := by omega
    have hk1 := half_lt h2
    have hk0 := half_pos h2
    have hh := fun W => rhalf_calls n h2 (by omega) W
    have HL := Lib.hid (longT_many hm1 (by omega : m < n) wh)
    have HIH := Lib.hid ih
    clear ih
    obtain ⟨k, hk⟩ : ∃ k, k = half n := ⟨_, rfl⟩
    rw [← hk] at hk1 hk0 hh HL
    clear hk
    have hnn : ((m : Int) == (n : Int)) = false := by rw [beq_eq_false_iff_ne]; omega
    by_cases hik : m ≤ k
    · have hik' : (m : Int) ≤ (k : Int) := by omega
      rw [if_pos hik] at HL
      have HC := Lib.hid (fun W => HIH.out k hk1 m wh W hm1 hik (by omega))
      have hlq := longT_le k m wh
      generalize longT k m wh = q at *
      clear HIH
      go_enter Tryz.func37, Tryz.ntmps37
      go_wp2_with fail
      refine (hh _).mono ?_
      rintro e w1 ⟨rfl, rfl⟩
      clear hh
      go_wp2_with fail
      refine (HC.out _).mono ?_
      rintro e w2 ⟨rfl, rfl⟩
      go_wp2
      go_ret
      exact ⟨by rw [HL.out]; go_num, rfl⟩
    · have hik' : ¬ (m : Int) ≤ (k : Int) := by omega
      rw [if_neg hik] at HL
      have hC := (fun W => HIH.out (n - k) (by omega) (m - k) false W (by omega) (by omega) (by omega))
      rw [show ((n - k : Nat) : Int) = (n : Int) - (k : Int) by omega, show ((m - k : Nat) : Int) = (m : Int) - (k : Int) by omega] at hC
      have HC := Lib.hid hC
      have hlq := longT_le (n - k) (m - k) false
      generalize longT (n - k) (m - k) false = q at *
      clear HIH hC
      go_enter Tryz.func37, Tryz.ntmps37
      go_wp2_with fail
      refine (hh _).mono ?_
      rintro e w1 ⟨rfl, rfl⟩
      clear hh
      go_wp2_with fail
      refine (HC.out _).mono ?_
      rintro e w2 ⟨rfl, rfl⟩
      go_wp2
      go_ret
      exact ⟨by rw [HL.out]; go_num, rfl⟩
theorem getD_size2 {L : List ByteArray} {M : Nat} (h : ∀ s ∈ L, s.size ≤ M) (i : Nat) : (L.getD i ByteArray.empty).size ≤ M := by
  by_cases hi : i < L.length
  · rw [show L.getD i ByteArray.empty = L[i] by simp [List.getD, hi]]; exact h _ (List.getElem_mem hi)
  · rw [show L.getD i ByteArray.empty = ByteArray.empty by simp [List.getD, Nat.le_of_not_lt hi]]; exact Nat.zero_le _
theorem take_all {p : List ByteArray} {i : Nat} (h : i < p.length) : (p.take (i + 1)).all isS = ((p.take i).all isS && isS (p.getD i ByteArray.empty)) := by
  rw [List.take_succ_eq_append_getElem h, List.all_append]
  simp [List.getD, h]
theorem not_all {p : List ByteArray} {i : Nat} (h : i < p.length) (hn : isS (p.getD i ByteArray.empty) = false) : p.all isS = false := by
  cases hq : p.all isS with
  | false => rfl
  | true =>
    have := List.all_eq_true.1 hq (p.getD i ByteArray.empty) (by simp [List.getD, h])
    rw [hn] at this; cases this
set_option maxHeartbeats 1000000 in
theorem rdigests_calls (v : Value) (p : List ByteArray) (w : World) (hv : IsStrC w v p) (hs : ∀ s ∈ p, s.size ≤ 1099511627776) :
    Calls Tryz.prog 34 #[v] w fun e w' => e = .returned (.bool (p.all isS)) ∧ Below w.heap.size w w' := by
  have HS := Lib.hid hs
  obtain ⟨ao, cap, rfl, hlc, hmax, hcells⟩ := hv
  have HC := Lib.hid hcells
  have hmx : cap ≤ 9223372036854775807 := hmax
  clear hs hcells hmax
  obtain ⟨n, hn⟩ : ∃ n, n = p.length := ⟨_, rfl⟩
  rw [← hn] at hlc ⊢
  have HN := Lib.hid hn
  clear hn
  go_enter Tryz.func34, Tryz.ntmps34
  go_wp2_with fail
  go_loopw [3] (fun vi W => ∃ i : Nat, vi = .int .i64 (i : Int) ∧ i ≤ n ∧ Hid (Below w.heap.size w W ∧ (p.take i).all isS = true)) (fun vi _ => n - (RowKit.intOf vi).toNat)
  case atStart => exact ⟨0, rfl, by omega, Below.refl _ _, rfl⟩
  case round =>
    obtain ⟨i, rfl, hi, HI⟩ := hrel
    by_cases hlt : i < n
    · obtain ⟨b, o, rfl, hbl, hc⟩ := HC.out i (by rw [← HN.out]; exact hlt)
      have hcw : wr.cell? ⟨b, o + i, none⟩ = some (.string (p.getD i ByteArray.empty)) := by rw [HI.out.1.cell (p := ⟨b, o + i, none⟩) hbl]; exact hc
      have hip : i < p.length := by rw [← HN.out]; exact hlt
      have HTA := Lib.hid (take_all hip)
      have HNA := Lib.hid (fun h => not_all (i := i) hip h)
      have hsz := getD_size2 HS.out i
      generalize p.getD i ByteArray.empty = s at *
      clear hc HC hip
      go_wp2_with fail
      refine (ris_calls s (by omega) _).mono ?_
      rintro e w1 ⟨rfl, rfl⟩
      cases hq : isS s with
      | false =>
        have HB := Lib.hid HI.out.1
        have HF := Lib.hid (HNA.out hq)
        clear HI HTA HNA hq
        go_wp2
        go_ret
        exact ⟨by rw [HF.out]; rfl, HB.out⟩
      | true =>
        have HI2 : Hid (Below w.heap.size w w1 ∧ (p.take (i + 1)).all isS = true) := Lib.hid ⟨HI.out.1, by rw [HTA.out, HI.out.2, hq]; rfl⟩
        clear HI HTA HNA hq
        go_wp2
        go_round
        case rel => exact ⟨i + 1, by go_num, by omega, HI2⟩
        case measure => simp only [RowKit.intOf]; omega
    · have HF : Hid (p.all isS = true) := Lib.hid (by have := HI.out.2; rwa [List.take_of_length_le (by rw [← HN.out]; omega)] at this)
      go_wp2
      go_ret
      exact ⟨by rw [HF.out]; rfl, HI.out.1⟩
theorem check_none {root s : ByteArray} {n i : Int} {p : List ByteArray} (h : ¬ (n ≤ 1000000 ∧ 0 ≤ i ∧ i < n)) : checkT root n i s p = false := by
  unfold checkT
  by_cases h1 : n ≤ 1000000
  · by_cases h2 : 0 ≤ i
    · rw [decide_eq_false (by omega : ¬ i < n)]; simp
    · rw [decide_eq_false h2]; simp
  · rw [decide_eq_false h1]; simp
theorem check_some {root s : ByteArray} {n i : Nat} {p : List ByteArray} (hn : n ≤ 1000000) (hi : i < n) :
    checkT root n i s p = (decide (p.length = lenT n i) && p.all isS && decide (upT n i (dg [sLeaf, s]) p = root)) := by
  unfold checkT
  rw [decide_eq_true (by omega : (n : Int) ≤ 1000000), decide_eq_true (by omega : (0 : Int) ≤ (i : Int)), decide_eq_true (by omega : (i : Int) < (n : Int))]
  simp
set_option maxRecDepth 100000 in
set_option maxHeartbeats 2000000 in
theorem rcheck_calls (root : ByteArray) (n i : Int) (leaf : ByteArray) (v : Value) (p : List ByteArray) (w : World) (hv : IsStrC w v p) (hl : p.length ≤ 1099511627776) (hs : ∀ s ∈ p, s.size ≤ 1099511627776) (hx : leaf.size ≤ 1099511627776) :
    Calls Tryz.prog 14 #[.string root, .int .i64 n, .int .i64 i, .string leaf, v] w fun e w' => e = .returned (.bool (checkT root n i leaf p)) ∧ Below w.heap.size w w' := by
  have HV := Lib.hid hv
  have HS := Lib.hid hs
  obtain ⟨ao, cap, rfl, _, _, _⟩ := hv
  clear hs
  by_cases hb : n ≤ 1000000 ∧ 0 ≤ i ∧ i < n
  · obtain ⟨n', rfl⟩ : ∃ a : Nat, n = (a : Int) := ⟨n.toNat, by omega⟩
    obtain ⟨i', rfl⟩ : ∃ b : Nat, i = (b : Int) := ⟨i.toNat, by omega⟩
    have hn1 : n' ≤ 1000000 := by omega
    have hi1 : i' < n' := by omega
    have HC := Lib.hid (check_some (root := root) (s := leaf) (p := p) hn1 hi1)
    have hd1 : decide ((1000000 : Int) < (n' : Int)) = false := decide_eq_false (by omega)
    have hd2 : decide ((i' : Int) < 0) = false := decide_eq_false (by omega)
    have hd3 : decide (n' ≤ i') = false := decide_eq_false (by omega)
    have HL := Lib.hid (rlength_calls n' i' w (by omega) hn1 hi1)
    clear hb
    by_cases hq : p.length = lenT n' i'
    · have HQ := Lib.hid hq
      have HD := Lib.hid (rdigests_calls _ p w HV.out HS.out)
      have hql : lenT n' i' ≤ n' := lenT_le n' i'
      rw [← hq] at HL hql
      clear hq
      cases hp : p.all isS with
      | false =>
        have HW : Hid (checkT root n' i' leaf p = false) := Lib.hid (by rw [HC.out, hp]; simp)
        rw [hp] at HD
        clear hp
        go_enter Tryz.func14, Tryz.ntmps14
        go_wp2_with fail
        refine (HL.out).mono ?_
        rintro e w1 ⟨rfl, rfl⟩
        go_wp2_with fail
        refine (HD.out).mono ?_
        rintro e w2 ⟨rfl, h2⟩
        go_wp2
        go_ret
        exact ⟨by rw [HW.out]; rfl, h2⟩
      | true =>
        have HW : Hid (checkT root n' i' leaf p = decide (upT n' i' (dg [sLeaf, leaf]) p = root)) := Lib.hid (by rw [HC.out, hp, decide_eq_true HQ.out]; simp)
        rw [hp] at HD
        clear hp
        have hds := dg_size [sLeaf, leaf]
        go_enter Tryz.func14, Tryz.ntmps14
        go_wp2_with fail
        refine (HL.out).mono ?_
        rintro e w1 ⟨rfl, rfl⟩
        go_wp2_with fail
        refine (HD.out).mono ?_
        rintro e w2 ⟨rfl, h2⟩
        have H2 := Lib.hid h2
        clear h2
        go_wp2_with fail
        refine (rleaf_calls leaf w2 hx).mono ?_
        rintro e w3 ⟨rfl, h3⟩
        have H3 := Lib.hid (H2.out.trans (h3.mono H2.out.size))
        clear h3
        go_wp2_with fail
        refine (rup_calls n' i' (dg [sLeaf, leaf]) p _ w3 (by omega) hn1 hi1 hds (HV.out.on H3.out) HS.out HQ.out).mono ?_
        rintro e w4 ⟨rfl, h4⟩
        have H4 := Lib.hid (H3.out.trans (h4.mono H3.out.size))
        clear h4
        rw [← eqB] at HW
        generalize upT n' i' (dg [sLeaf, leaf]) p = U at *
        go_wp2
        go_ret
        exact ⟨by rw [HW.out]; rfl, H4.out⟩
    · have HW : Hid (checkT root n' i' leaf p = false) := Lib.hid (by rw [HC.out, decide_eq_false hq]; simp)
      obtain ⟨q, hq2⟩ : ∃ q, q = lenT n' i' := ⟨_, rfl⟩
      have hql : lenT n' i' ≤ n' := lenT_le n' i'
      rw [← hq2] at HL hq hql
      have hne : ((p.length : Int) == (q : Int)) = false := by rw [beq_eq_false_iff_ne]; omega
      clear hq2
      go_enter Tryz.func14, Tryz.ntmps14
      go_wp2_with fail
      refine (HL.out).mono ?_
      rintro e w1 ⟨rfl, rfl⟩
      go_wp2
      go_ret
      exact ⟨by rw [HW.out]; rfl, Below.refl _ _⟩
  · have HW := Lib.hid (check_none (root := root) (s := leaf) (p := p) hb)
    by_cases h1 : 1000000 < n
    · clear hb
      go_enter Tryz.func14, Tryz.ntmps14
      go_wp2
      go_ret
      exact ⟨by rw [HW.out]; rfl, Below.refl _ _⟩
    · by_cases h2 : i < 0
      · clear hb
        go_enter Tryz.func14, Tryz.ntmps14
        go_wp2
        go_ret
        exact ⟨by rw [HW.out]; rfl, Below.refl _ _⟩
      · have h3 : n ≤ i := by omega
        clear hb
        go_enter Tryz.func14, Tryz.ntmps14
        go_wp2
        go_ret
        exact ⟨by rw [HW.out]; rfl, Below.refl _ _⟩
end Go.Proofs.YtlchpdjpnabeiaaGreatDoor
