import Derived.Test.YtpogffdbencfnaaGreatDoorSlVf
import Derived.Test.YtpogffdbencfnaaGreatDoorSlWalkC
set_option linter.unusedVariables false
namespace Go.Proofs.YtpogffdbencfnaaGreatDoor
open Go Go.RowKit

theorem row_alloc (w : World) (cs : Array Value) (T : TypeId) : (w.alloc (.cells cs T)).heap[w.heap.size]? = some (.cells cs T (0, 0)) := World.alloc_heap_new _ _
def same3 (i j : Int) (a b c d : List ByteArray) : Bool := decide (i = j) && (sameB a b && sameB c d)
theorem same3_true {i j : Int} {a b c d : List ByteArray} (h : same3 i j a b c d = true) : i = j ∧ a = b ∧ c = d := by
  unfold same3 sameB at h
  simp only [Bool.and_eq_true, decide_eq_true_eq] at h
  exact ⟨h.1, h.2.1, h.2.2⟩
theorem same3_refl (i : Int) (a c : List ByteArray) : same3 i i a a c c = true := by simp [same3, sameB]
set_option maxHeartbeats 1000000 in
theorem same03_calls (i j : Int) (va vb vc vd : Value) (a b c d : List ByteArray) (w : World) (ha : IsStrC w va a) (hb : IsStrC w vb b) (hc : IsStrC w vc c) (hd : IsStrC w vd d) :
    Calls Tryz.prog 14 #[.agg #[.int .i64 i, va, vc], .agg #[.int .i64 j, vb, vd]] w fun e w' => e = .returned (.bool (same3 i j a b c d)) ∧ Below w.heap.size w w' := by
  obtain ⟨aoa, ca, rfl⟩ := strc_form ha
  obtain ⟨aob, cb, rfl⟩ := strc_form hb
  obtain ⟨aoc, cc, rfl⟩ := strc_form hc
  obtain ⟨aod, cd, rfl⟩ := strc_form hd
  have hB1 := (Below.refl _ w).alloc (Nat.le_refl _) (.cells #[.int .i64 i, .slice aoa a.length ca, .slice aoc c.length cc] 24)
  have hB2 := hB1.alloc (by simp) (.cells #[.int .i64 j, .slice aob b.length cb, .slice aod d.length cd] 24)
  have HB2 := Lib.hid hB2
  have HA := Lib.hid (ha.on hB2)
  have HB := Lib.hid (hb.on hB2)
  have HC := Lib.hid (hc.on hB2)
  have HD := Lib.hid (hd.on hB2)
  clear ha hb hc hd hB1 hB2
  by_cases hij : i = j
  · subst hij
    have HS : Hid (same3 i i a b c d = (sameB a b && sameB c d)) := Lib.hid (by simp [same3])
    cases h1 : sameB a b with
    | false =>
      have HF : Hid (same3 i i a b c d = false) := Lib.hid (by rw [HS.out, h1]; rfl)
      go_enter Tryz.func14, Tryz.ntmps14
      go_wp2_with fail
      refine (same_calls _ _ a b _ HA.out.strs HB.out.strs).mono ?_
      rintro e w1 ⟨rfl, hw1⟩
      rw [h1]
      have HW1 := Lib.hid (HB2.out.trans (hw1.mono HB2.out.size))
      clear hw1
      go_wp2
      go_ret
      exact ⟨by rw [HF.out]; rfl, HW1.out⟩
    | true =>
      have HF : Hid (same3 i i a b c d = sameB c d) := Lib.hid (by rw [HS.out, h1]; rfl)
      clear HS
      generalize hg : (w.alloc (.cells #[.int .i64 i, .slice aoa a.length ca, .slice aoc c.length cc] 24)).alloc (.cells #[.int .i64 i, .slice aob b.length cb, .slice aod d.length cd] 24) = w0 at HB2 HA HB HC HD
      have hr1 : w0.heap[w.heap.size]? = some (.cells #[.int .i64 i, .slice aoa a.length ca, .slice aoc c.length cc] 24 (0, 0)) := by rw [← hg]; exact (heap_two w _ _).2.1
      have hr2 : w0.heap[w.heap.size + 1]? = some (.cells #[.int .i64 i, .slice aob b.length cb, .slice aod d.length cd] 24 (0, 0)) := by rw [← hg]; exact (heap_two w _ _).2.2.1
      have HR1 := Lib.hid hr1
      have HR2 := Lib.hid hr2
      have hz : w.heap.size + 2 ≤ w0.heap.size := by rw [← hg]; exact Nat.le_of_eq (heap_two w _ _).1.symm
      have HG := Lib.hid hg
      clear hr1 hr2 hg
      go_enter Tryz.func14, Tryz.ntmps14
      go_wp2_with fail
      rw [HG.out]
      refine (same_calls _ _ a b _ HA.out.strs HB.out.strs).mono ?_
      rintro e w1 ⟨rfl, hw1⟩
      rw [h1]
      have k1 : w1.cell? ⟨w.heap.size, 2, none⟩ = some (.slice aoc c.length cc) := by rw [cell_of_row w1 _ 2 _ _ _ ((hw1.block _ (by omega)).trans HR1.out)]; rfl
      have k2 : w1.cell? ⟨w.heap.size + 1, 2, none⟩ = some (.slice aod d.length cd) := by rw [cell_of_row w1 _ 2 _ _ _ ((hw1.block _ (by omega)).trans HR2.out)]; rfl
      have HW1 := Lib.hid (HB2.out.trans (hw1.mono HB2.out.size))
      have HC1 := Lib.hid (HC.out.on hw1)
      have HD1 := Lib.hid (HD.out.on hw1)
      clear hw1
      go_wp2_with fail
      refine (same_calls _ _ c d _ HC1.out.strs HD1.out.strs).mono ?_
      rintro e w2 ⟨rfl, hw2⟩
      have HW2 := Lib.hid (HW1.out.trans (hw2.mono HW1.out.size))
      clear hw2
      go_wp2
      go_ret
      exact ⟨by rw [HF.out]; rfl, HW2.out⟩
  · have hbe : (i == j) = false := by rw [beq_eq_false_iff_ne]; exact hij
    have HF : Hid (same3 i j a b c d = false) := Lib.hid (by simp [same3, hij])
    clear hij
    go_enter Tryz.func14, Tryz.ntmps14
    go_wp2
    go_ret
    exact ⟨by rw [HF.out]; rfl, HB2.out⟩
def smallB (l : List ByteArray) : Bool := l.all fun s => decide (s.size ≤ 100)
def fewS (sig path : List ByteArray) : Bool := decide (sig.length ≤ 30) && (decide (path.length ≤ 30) && (smallB sig && smallB path))
theorem small_take {l : List ByteArray} {i : Nat} (h : i < l.length) : smallB (l.take (i + 1)) = (smallB (l.take i) && decide ((l.getD i ByteArray.empty).size ≤ 100)) := by
  unfold smallB
  rw [List.take_succ_eq_append_getElem h, List.all_append]
  simp [List.getD, h]
theorem small_not {l : List ByteArray} {i : Nat} (h : i < l.length) (hn : ¬ (l.getD i ByteArray.empty).size ≤ 100) : smallB l = false := by
  cases hq : smallB l with
  | false => rfl
  | true =>
    have := List.all_eq_true.1 hq (l.getD i ByteArray.empty) (by simp [List.getD, h])
    exact absurd (by simpa using this) hn
theorem few_sig {sig path : List ByteArray} (h : smallB sig = false) : fewS sig path = false := by simp [fewS, h]
theorem few_path {sig path : List ByteArray} (h : smallB path = false) : fewS sig path = false := by simp [fewS, h]
theorem few_facts {sig path : List ByteArray} (h : fewS sig path = true) : sig.length ≤ 30 ∧ path.length ≤ 30 ∧ (∀ s ∈ sig, s.size ≤ 100) ∧ ∀ s ∈ path, s.size ≤ 100 := by
  unfold fewS smallB at h
  simp only [Bool.and_eq_true, decide_eq_true_eq, List.all_eq_true] at h
  exact h
def FewPost (sig path : List ByteArray) (w : World) (e : Ending) (w' : World) : Prop := e = .returned (.bool (fewS sig path)) ∧ Below w.heap.size w w'
end Go.Proofs.YtpogffdbencfnaaGreatDoor

namespace Go.Proofs.YtpogffdbencfnaaGreatDoor
open Go Go.RowKit

set_option maxRecDepth 100000 in
set_option maxHeartbeats 2000000 in
theorem few03_calls (idx : Int) (vs vp : Value) (sig path : List ByteArray) (w : World) (hs : IsStrC w vs sig) (hp : IsStrC w vp path) (hss : ∀ s ∈ sig, s.size ≤ 9223372036854775807) (hps : ∀ s ∈ path, s.size ≤ 9223372036854775807) :
    Calls Tryz.prog 9 #[.agg #[.int .i64 idx, vs, vp]] w (FewPost sig path w) := by
  have HSS := Lib.hid hss
  have HSP := Lib.hid hps
  obtain ⟨aos, cs, rfl, hlcs, hmxs, hcells⟩ := hs
  obtain ⟨aop, cp, rfl, hlcp, hmxp, hcellp⟩ := hp
  have hmxs' : cs ≤ 9223372036854775807 := hmxs
  have hmxp' : cp ≤ 9223372036854775807 := hmxp
  have HCS := Lib.hid hcells
  have HCP := Lib.hid hcellp
  obtain ⟨hbx, hB1, hz⟩ := box_one w #[.int .i64 idx, .slice aos sig.length cs, .slice aop path.length cp] 24
  obtain ⟨ls, hls⟩ : ∃ ls, ls = sig.length := ⟨_, rfl⟩
  obtain ⟨lp, hlp⟩ : ∃ lp, lp = path.length := ⟨_, rfl⟩
  rw [← hls] at hlcs hbx hB1 hz ⊢
  rw [← hlp] at hlcp hbx hB1 hz ⊢
  have HLS := Lib.hid hls
  have HLP := Lib.hid hlp
  clear hss hps hmxs hmxp hcells hcellp hls hlp
  go_enter Tryz.func9, Tryz.ntmps9
  go_wp2_with fail
  generalize hg : w.alloc (.cells #[.int .i64 idx, .slice aos ls cs, .slice aop lp cp] 24) = w0 at *
  have c1 : w0.cell? ⟨w.heap.size, 1, none⟩ = some (.slice aos ls cs) := by rw [cell_of_row _ _ 1 _ _ _ hbx]; rfl
  have c2 : w0.cell? ⟨w.heap.size, 2, none⟩ = some (.slice aop lp cp) := by rw [cell_of_row _ _ 2 _ _ _ hbx]; rfl
  have HB1 := Lib.hid hB1
  clear hg hbx hB1
  go_loop [3] (fun vi => ∃ i : Nat, vi = .int .i64 (i : Int) ∧ i ≤ ls ∧ i ≤ 30 ∧ Hid (smallB (sig.take i) = true)) (fun vi => ls - (RowKit.intOf vi).toNat)
  case atStart => exact ⟨0, rfl, by omega, by omega, Lib.hid rfl⟩
  case round =>
    obtain ⟨i, rfl, hi, hi30, HI⟩ := hrel
    by_cases hlt : i < ls
    · have hlt' : decide ((i : Int) < (ls : Int)) = true := decide_eq_true (by omega)
      by_cases h30 : i < 30
      · obtain ⟨b, o, rfl, hbl, hc⟩ := HCS.out i (by rw [← HLS.out]; exact hlt)
        have hil : i < sig.length := by rw [← HLS.out]; exact hlt
        have hc0 : w0.cell? ⟨b, o + i, none⟩ = some (.string (sig.getD i ByteArray.empty)) := by rw [HB1.out.cell (p := ⟨b, o + i, none⟩) hbl]; exact hc
        have HT := Lib.hid (small_take hil)
        have HF := Lib.hid (fun h => few_sig (path := path) (small_not (i := i) hil h))
        have hsz := getD_size HSS.out i
        generalize sig.getD i ByteArray.empty = s at *
        clear hil hc
        by_cases h3 : s.size ≤ 100
        · have HI2 : Hid (smallB (sig.take (i + 1)) = true) := Lib.hid (by rw [HT.out, HI.out, decide_eq_true h3]; rfl)
          clear HT HF HI
          go_wp2
          go_round
          case rel => exact ⟨i + 1, by go_num, by omega, by omega, HI2⟩
          case measure => simp only [RowKit.intOf]; omega
        · have HF2 := Lib.hid (HF.out h3)
          clear HT HF HI
          go_wp2
          go_ret
          exact ⟨by rw [HF2.out]; rfl, HB1.out⟩
      · have hE : ¬ ls ≤ 30 ∨ ls = i := by omega
        have h30' : ¬ ((i : Int) < 30) := by omega
        have HE : Hid (fewS sig path = false) := by
          have e : ¬ sig.length ≤ 30 := by rw [← HLS.out]; omega
          exact Lib.hid (by simp [fewS, e])
        clear HI
        go_wp2_with fail
        go_loop [4] (fun vi => ∃ i : Nat, vi = .int .i64 (i : Int) ∧ i ≤ lp ∧ i ≤ 30) (fun vi => lp - (RowKit.intOf vi).toNat)
        case atStart => exact ⟨0, rfl, by omega, by omega⟩
        case round =>
          obtain ⟨j, rfl, hj, hj30⟩ := hrel
          by_cases hlt2 : j < lp
          · have hlt2' : decide ((j : Int) < (lp : Int)) = true := decide_eq_true (by omega)
            by_cases hj3 : j < 30
            · obtain ⟨b, o, rfl, hbl, hc⟩ := HCP.out j (by rw [← HLP.out]; exact hlt2)
              have hc0 : w0.cell? ⟨b, o + j, none⟩ = some (.string (path.getD j ByteArray.empty)) := by rw [HB1.out.cell (p := ⟨b, o + j, none⟩) hbl]; exact hc
              have hsz := getD_size HSP.out j
              generalize path.getD j ByteArray.empty = s at *
              clear hc
              by_cases h3 : s.size ≤ 100
              · go_wp2
                go_round
                case rel => exact ⟨j + 1, by go_num, by omega, by omega⟩
                case measure => simp only [RowKit.intOf]; omega
              · go_wp2
                go_ret
                exact ⟨by rw [HE.out]; rfl, HB1.out⟩
            · have hj3' : ¬ ((j : Int) < 30) := by omega
              have hls30 : ¬ ((ls : Int) ≤ 30) := by omega
              go_wp2
              go_ret
              exact ⟨by rw [HE.out]; rfl, HB1.out⟩
          · have hls30 : ¬ ((ls : Int) ≤ 30) := by omega
            have hlt2' : ¬ ((j : Int) < (lp : Int)) := by omega
            go_wp2
            go_ret
            exact ⟨by rw [HE.out]; rfl, HB1.out⟩
    · have hil : i = ls := by omega
      have HSM : Hid (smallB sig = true) := Lib.hid (by have := HI.out; rwa [List.take_of_length_le (by rw [← HLS.out]; omega)] at this)
      have hlt' : ¬ ((i : Int) < (ls : Int)) := by omega
      clear HI
      go_wp2_with fail
      go_loop [4] (fun vi => ∃ i : Nat, vi = .int .i64 (i : Int) ∧ i ≤ lp ∧ i ≤ 30 ∧ Hid (smallB (path.take i) = true)) (fun vi => lp - (RowKit.intOf vi).toNat)
      case atStart => exact ⟨0, rfl, by omega, by omega, Lib.hid rfl⟩
      case round =>
        obtain ⟨j, rfl, hj, hj30, HJ⟩ := hrel
        have hls30 : (ls : Int) ≤ 30 := by omega
        by_cases hlt2 : j < lp
        · have hlt2' : decide ((j : Int) < (lp : Int)) = true := decide_eq_true (by omega)
          by_cases hj3 : j < 30
          · obtain ⟨b, o, rfl, hbl, hc⟩ := HCP.out j (by rw [← HLP.out]; exact hlt2)
            have hjl : j < path.length := by rw [← HLP.out]; exact hlt2
            have hc0 : w0.cell? ⟨b, o + j, none⟩ = some (.string (path.getD j ByteArray.empty)) := by rw [HB1.out.cell (p := ⟨b, o + j, none⟩) hbl]; exact hc
            have HT := Lib.hid (small_take hjl)
            have HF := Lib.hid (fun h => few_path (sig := sig) (small_not (i := j) hjl h))
            have hsz := getD_size HSP.out j
            generalize path.getD j ByteArray.empty = s at *
            clear hc hjl
            by_cases h3 : s.size ≤ 100
            · have HJ2 : Hid (smallB (path.take (j + 1)) = true) := Lib.hid (by rw [HT.out, HJ.out, decide_eq_true h3]; rfl)
              clear HT HF HJ
              go_wp2
              go_round
              case rel => exact ⟨j + 1, by go_num, by omega, by omega, HJ2⟩
              case measure => simp only [RowKit.intOf]; omega
            · have HF2 := Lib.hid (HF.out h3)
              clear HT HF HJ
              go_wp2
              go_ret
              exact ⟨by rw [HF2.out]; rfl, HB1.out⟩
          · have hj3' : ¬ ((j : Int) < 30) := by omega
            have hlp30 : ¬ ((lp : Int) ≤ 30) := by omega
            have HE : Hid (fewS sig path = false) := by
              have e : ¬ path.length ≤ 30 := by rw [← HLP.out]; omega
              exact Lib.hid (by simp [fewS, e])
            clear HJ
            go_wp2
            go_ret
            exact ⟨by rw [HE.out]; rfl, HB1.out⟩
        · have hjl : j = lp := by omega
          have HSN : Hid (smallB path = true) := Lib.hid (by have := HJ.out; rwa [List.take_of_length_le (by rw [← HLP.out]; omega)] at this)
          have hlt2' : ¬ ((j : Int) < (lp : Int)) := by omega
          have hlp30 : (lp : Int) ≤ 30 := by omega
          have HE : Hid (fewS sig path = true) := by
            have e1 : sig.length ≤ 30 := by rw [← HLS.out]; omega
            have e2 : path.length ≤ 30 := by rw [← HLP.out]; omega
            exact Lib.hid (by simp [fewS, e1, e2, HSM.out, HSN.out])
          clear HJ
          go_wp2
          go_ret
          exact ⟨by rw [HE.out]; rfl, HB1.out⟩
end Go.Proofs.YtpogffdbencfnaaGreatDoor

