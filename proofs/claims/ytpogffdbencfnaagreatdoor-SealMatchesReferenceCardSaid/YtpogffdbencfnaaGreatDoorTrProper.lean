import Derived.Test.YtpogffdbencfnaaGreatDoorTrNode
set_option linter.unusedVariables false
namespace Go.Proofs.YtpogffdbencfnaaGreatDoor
open Go Go.RowKit

theorem odd_calls (s : ByteArray) (hs : s.size ≤ 4611686018427387904) (w : World) :
    Calls Tryz.prog 93 #[.string s] w fun e w' => e = .returned (.bool (!isS s)) ∧ Below w.heap.size w w' := by
  go_enter Tryz.func93, Tryz.ntmps93
  go_wp2_with fail
  refine (is_calls s hs w).mono ?_
  rintro e w1 ⟨rfl, h1⟩
  go_wp2
  go_ret
  exact ⟨rfl, h1⟩
theorem all_take_succ (l : List ByteArray) (i : Nat) (hi : i < l.length) : (l.take (i + 1)).all isS = ((l.take i).all isS && isS (l.getD i ByteArray.empty)) := by
  rw [List.take_add_one, List.all_append, List.getElem?_eq_getElem hi]
  simp [List.getD, hi]
theorem all_of_take (l : List ByteArray) (i : Nat) (h : (l.take i).all isS = false) : l.all isS = false := by
  have := List.take_append_drop i l
  rw [← this, List.all_append, h]; rfl
theorem index_calls (v : Value) (l : List ByteArray) (w : World) (hv : IsStrC w v l) (hs : ∀ s ∈ l, s.size ≤ 1099511627776) :
    Calls Tryz.prog 107 #[v, .func (Fn.func 93) #[] #[]] w fun e w' => ∃ r : Int, e = .returned (.int .i64 r) ∧ decide (0 ≤ r) = !(l.all isS) ∧ Below w.heap.size w w' := by
  obtain ⟨ao, cap, rfl, hlc, hmax, hcells⟩ := hv
  have HC := Lib.hid hcells
  have HS := Lib.hid hs
  clear hcells hs
  have hmx : l.length ≤ 9223372036854775807 := by have : cap ≤ 9223372036854775807 := hmax; omega
  clear hmax hlc
  go_enter Tryz.func107, Tryz.ntmps107
  go_wp2_with fail
  go_loopw [8] (fun vi W => ∃ i : Nat, vi = .int .i64 (i : Int) ∧ i ≤ l.length ∧ Hid (Below w.heap.size w W ∧ (l.take i).all isS = true)) (fun vi _ => l.length - (RowKit.intOf vi).toNat)
  case atStart => exact ⟨0, rfl, by omega, Below.refl _ _, rfl⟩
  case round =>
    obtain ⟨i, rfl, hi, HI⟩ := hrel
    by_cases hlt : i < l.length
    · obtain ⟨b, o, rfl, hbl, hc⟩ := HC.out i hlt
      have hcw : wr.cell? ⟨b, o + i, none⟩ = some (.string (l.getD i ByteArray.empty)) := by rw [HI.out.1.cell (p := ⟨b, o + i, none⟩) hbl]; exact hc
      have HA := Lib.hid (all_take_succ l i hlt)
      have hss : (l.getD i ByteArray.empty).size ≤ 1099511627776 := HS.out _ (by simp [List.getD, hlt])
      generalize l.getD i ByteArray.empty = s at *
      clear hc
      cases hq : isS s with
      | true =>
        go_wp2_with fail
        refine (odd_calls s (by omega) wr).mono ?_
        rintro e w1 ⟨rfl, h1⟩
        have HB1 := Lib.hid (HI.out.1.trans (h1.mono HI.out.1.size))
        have HA1 : Hid ((l.take (i + 1)).all isS = true) := by rw [HA.out, HI.out.2, hq]; exact Lib.hid rfl
        clear h1 hcw HA HI
        rw [hq]
        go_wp2
        go_round
        case rel => exact ⟨i + 1, rfl, by omega, HB1.out, HA1.out⟩
        case measure => simp only [RowKit.intOf]; omega
      | false =>
        go_wp2_with fail
        refine (odd_calls s (by omega) wr).mono ?_
        rintro e w1 ⟨rfl, h1⟩
        have HB1 := Lib.hid (HI.out.1.trans (h1.mono HI.out.1.size))
        have HA1 : Hid (l.all isS = false) := by exact Lib.hid (all_of_take l (i + 1) (by rw [HA.out, hq, Bool.and_false]))
        clear h1 hcw HA HI
        rw [hq]
        go_wp2
        go_ret
        exact ⟨_, rfl, by rw [HA1.out]; simp, HB1.out⟩
    · have e : i = l.length := by omega
      subst e
      have HA1 : Hid (l.all isS = true) := by have := HI.out.2; rw [List.take_length] at this; exact Lib.hid this
      have HB1 := Lib.hid HI.out.1
      clear HI
      go_wp2
      go_ret
      exact ⟨_, rfl, by rw [HA1.out]; rfl, HB1.out⟩
theorem contains_calls (v : Value) (l : List ByteArray) (w : World) (hv : IsStrC w v l) (hs : ∀ s ∈ l, s.size ≤ 1099511627776) :
    Calls Tryz.prog 92 #[v, .func (Fn.func 93) #[] #[]] w fun e w' => e = .returned (.bool (!(l.all isS))) ∧ Below w.heap.size w w' := by
  go_enter Tryz.func92, Tryz.ntmps92
  go_wp2_with fail
  refine (index_calls v l w hv hs).mono ?_
  rintro e w1 ⟨r, rfl, hr, h1⟩
  have HR := Lib.hid hr
  clear hr
  go_wp2
  go_ret
  exact ⟨by rw [← HR.out]; rfl, h1⟩
theorem proper_calls (v : Value) (l : List ByteArray) (w : World) (hv : IsStrC w v l) (hs : ∀ s ∈ l, s.size ≤ 1099511627776) :
    Calls Tryz.prog 68 #[v] w fun e w' => e = .returned (.bool (l.all isS)) ∧ Below w.heap.size w w' := by
  have HV := Lib.hid hv
  clear hv
  go_enter Tryz.func68, Tryz.ntmps68
  go_wp2_with fail
  refine (contains_calls v l w HV.out hs).mono ?_
  rintro e w1 ⟨rfl, h1⟩
  go_wp2
  go_ret
  exact ⟨by simp, h1⟩
end Go.Proofs.YtpogffdbencfnaaGreatDoor
