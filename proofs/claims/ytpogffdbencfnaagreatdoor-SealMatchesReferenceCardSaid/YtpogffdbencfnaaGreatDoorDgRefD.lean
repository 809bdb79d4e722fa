import Derived.Test.YtpogffdbencfnaaGreatDoorDgRefB
import Derived.WalkSmall
set_option linter.unusedVariables false
namespace Go.Proofs.YtpogffdbencfnaaGreatDoor
open Go Go.RowKit
def sameB (a b : List ByteArray) : Bool := decide (a = b)
theorem same_calls (va vb : Value) (xs ys : List ByteArray) (w : World) (ha : IsStrs w va xs) (hb : IsStrs w vb ys) :
    Calls Tryz.prog 34 #[va, vb] w fun e w' => e = .returned (.bool (sameB xs ys)) ∧ Below w.heap.size w w' := by
  obtain ⟨ao, cap, rfl, hmax, hcells⟩ := ha
  obtain ⟨bo, cap2, rfl, hmax2, hcells2⟩ := hb
  have HC := Lib.hid hcells
  have HC2 := Lib.hid hcells2
  have hmx : xs.length ≤ 9223372036854775807 := hmax
  have hmx2 : ys.length ≤ 9223372036854775807 := hmax2
  clear hmax hmax2 hcells hcells2
  by_cases hl : xs.length = ys.length
  · obtain ⟨n, hn⟩ : ∃ n, n = ys.length := ⟨_, rfl⟩
    rw [hl, ← hn]
    rw [← hn] at hmx2
    have HX : Hid (xs.length = n) := Lib.hid (hl.trans hn.symm)
    have HY : Hid (ys.length = n) := Lib.hid hn.symm
    clear hmx hn hl
    go_enter Tryz.func34, Tryz.ntmps34
    go_wp2_with fail
    go_loopw [5] (fun vi W => ∃ i : Nat, vi = .int .i64 (i : Int) ∧ i ≤ n ∧ Hid (Below w.heap.size w W ∧ ∀ j, j < i → xs.getD j ByteArray.empty = ys.getD j ByteArray.empty)) (fun vi _ => n - (RowKit.intOf vi).toNat)
    case atStart => exact ⟨0, rfl, by omega, Below.refl _ _, fun j hj => by omega⟩
    case round =>
      obtain ⟨i, rfl, hi, HI⟩ := hrel
      by_cases hlt : i < n
      · obtain ⟨b, o, rfl, hbl, hc⟩ := HC.out i (by rw [HX.out]; exact hlt)
        obtain ⟨b2, o2, rfl, hbl2, hc2⟩ := HC2.out i (by rw [HY.out]; exact hlt)
        have hcw : wr.cell? ⟨b, o + i, none⟩ = some (.string (xs.getD i ByteArray.empty)) := by rw [HI.out.1.cell (p := ⟨b, o + i, none⟩) hbl]; exact hc
        have hcw2 : wr.cell? ⟨b2, o2 + i, none⟩ = some (.string (ys.getD i ByteArray.empty)) := by rw [HI.out.1.cell (p := ⟨b2, o2 + i, none⟩) hbl2]; exact hc2
        clear hc hc2 HC HC2
        obtain ⟨s, hs⟩ : ∃ s, s = xs.getD i ByteArray.empty := ⟨_, rfl⟩
        obtain ⟨u, hu⟩ : ∃ u, u = ys.getD i ByteArray.empty := ⟨_, rfl⟩
        rw [← hs] at hcw
        rw [← hu] at hcw2
        have HS := Lib.hid hs
        have HU := Lib.hid hu
        clear hs hu
        by_cases he : s = u
        · subst he
          have HH : Hid (∀ j, j < i + 1 → xs.getD j ByteArray.empty = ys.getD j ByteArray.empty) := Lib.hid fun j hj => by
            rcases Nat.lt_succ_iff_lt_or_eq.1 hj with h | h
            · exact HI.out.2 j h
            · subst h; rw [← HS.out, ← HU.out]
          have HB := Lib.hid HI.out.1
          clear HI
          go_wp2_with fail
          go_quiet (fail)
          go_wp2
          go_round
          case rel => exact ⟨i + 1, rfl, by omega, below_drewN HB.out _, HH.out⟩
          case measure => simp only [RowKit.intOf]; omega
        · have hne : (s.toList == u.toList) = false := by
            rw [beq_eq_false_iff_ne]
            intro e
            apply he
            rw [ByteArray.toList_eq, ByteArray.toList_eq] at e
            exact ByteArray.ext (Array.toList_inj.1 e)
          have HF : Hid (sameB xs ys = false) := Lib.hid (decide_eq_false fun e => he (by rw [HS.out, HU.out, e]))
          have HB := Lib.hid HI.out.1
          clear HI
          go_wp2_with fail
          go_quiet (fail)
          go_wp2
          go_ret
          exact ⟨by rw [HF.out]; rfl, below_drewN HB.out _⟩
      · have HF : Hid (sameB xs ys = true) := Lib.hid (decide_eq_true (List.ext_getElem (HX.out.trans HY.out.symm) fun j h1 h2 => by
          have := HI.out.2 j (by have := HX.out; omega)
          simpa [List.getD, List.getElem?_eq_getElem h1, List.getElem?_eq_getElem h2] using this))
        go_wp2
        go_ret
        exact ⟨by rw [HF.out]; rfl, HI.out.1⟩
  · have HF : Hid (sameB xs ys = false) := Lib.hid (decide_eq_false fun e => hl (by rw [e]))
    go_enter Tryz.func34, Tryz.ntmps34
    go_wp2
    go_ret
    exact ⟨by rw [HF.out]; rfl, Below.refl _ _⟩
end Go.Proofs.YtpogffdbencfnaaGreatDoor
