import Derived.Test.YtncjbkolljgihaaDoorDgHeadB
set_option linter.unusedVariables false
namespace Go.Proofs.YtncjbkolljgihaaDoor
open Go Go.RowKit

theorem eqS (a b : ByteArray) : (a.toList == b.toList) = decide (a.data.toList = b.data.toList) := by
  rw [ByteArray.toList_eq, ByteArray.toList_eq]
  by_cases h : a.data.toList = b.data.toList
  · rw [h]; simp
  · rw [decide_eq_false h, beq_eq_false_iff_ne]; exact h
theorem short_law (a b : ByteArray) (w : World) (ha : a.size ≤ 9223372036854775807) (hb : b.size ≤ 9223372036854775807) (hT : Tabs w) :
    Calls Tryd.prog 6 #[.string a, .string b] w fun e w' => e = .returned (.bool true) ∧ Below w.heap.size w w' := by
  have HT := Lib.hid hT
  clear hT
  go_enter Tryd.func6, Tryd.ntmps6
  go_wp2_with fail
  refine (head01_calls w HT.out).mono ?_
  rintro e w1 ⟨rfl, h1⟩
  have H1 := Lib.hid h1
  clear h1
  have hea : (a.extract 0 (min (a.size : Int) 7).toNat).size ≤ 7 := by rw [ByteArray.size_extract]; omega
  have heb : (b.extract 0 (min (b.size : Int) 7).toNat).size ≤ 7 := by rw [ByteArray.size_extract]; omega
  go_wp2_with fail
  generalize a.extract 0 (min (a.size : Int) 7).toNat = p at *
  generalize b.extract 0 (min (b.size : Int) 7).toNat = q at *
  refine (sum_calls p (by omega) w1 (HT.out.on H1.out)).mono ?_
  rintro e w2 ⟨rfl, h2⟩
  have H2 := Lib.hid (H1.out.trans (h2.mono H1.out.size))
  clear h2
  go_wp2_with fail
  refine (sum_calls q (by omega) w2 (HT.out.on H2.out)).mono ?_
  rintro e w3 ⟨rfl, h3⟩
  have H3 := Lib.hid (H2.out.trans (h3.mono H2.out.size))
  clear h3
  by_cases he : p = q
  · subst he
    go_wp2
    go_ret
    exact ⟨rfl, H3.out⟩
  · have hne : p.data.toList ≠ q.data.toList := fun e => he (ByteArray.ext (Array.toList_inj.1 e))
    have h1 := sum_ne hea heb hne
    have h2 : (p.toList == q.toList) = false := by rw [eqS]; exact decide_eq_false hne
    clear hne
    go_wp2
    go_ret
    exact ⟨rfl, H3.out⟩
end Go.Proofs.YtncjbkolljgihaaDoor
namespace Go.Proofs.YtncjbkolljgihaaDoor.digestShort
open Go Go.RowKit
theorem walk {w : World} (hT : Tabs w) (a : ByteArray) (wa : a.size ≤ maxLen) (b : ByteArray) (wb : b.size ≤ maxLen) :
    Calls Tryd.prog 6 #[.string a, .string b] w fun e w' => e = .returned (.bool true) ∧ Below w.heap.size w w' := short_law a b w wa wb hT
end Go.Proofs.YtncjbkolljgihaaDoor.digestShort
