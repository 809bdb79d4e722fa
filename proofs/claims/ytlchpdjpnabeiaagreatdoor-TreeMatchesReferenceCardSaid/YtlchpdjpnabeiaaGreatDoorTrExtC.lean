import Derived.Test.YtlchpdjpnabeiaaGreatDoorTrExtB
set_option linter.unusedVariables false
namespace Go.Proofs.YtlchpdjpnabeiaaGreatDoor
open Go Go.RowKit

theorem ext_calls (old : ByteArray) (m : Int) (root : ByteArray) (n : Int) (v : Value) (p : List ByteArray) (w : World) (hv : IsStrC w v p) (hl : p.length ≤ 1099511627776) (hs : ∀ s ∈ p, s.size ≤ 1099511627776) (hos : old.size ≤ 1099511627776) (hrs : root.size ≤ 1099511627776) (hT : Tabs w) :
    Calls Tryz.prog 15 #[.string old, .int .i64 m, .string root, .int .i64 n, v] w fun e w' => e = .returned (.bool (extT old m root n p)) ∧ Below w.heap.size w w' := by
  by_cases hb : 0 ≤ m ∧ m ≤ n ∧ n ≤ 1000000
  · obtain ⟨h1, h2, h3⟩ := hb
    cases hp : p.all isS with
    | false =>
      have : extT old m root n p = false := by unfold extT; rw [hp]; simp
      rw [this]
      exact ext_improper old m root n v p w hv hl hs hos hrs h1 h2 h3 hp
    | true =>
      cases hq : [old, root].all isS with
      | false =>
        have : extT old m root n p = false := by
          simp only [List.all_cons, List.all_nil, Bool.and_true, Bool.and_eq_false_iff] at hq
          unfold extT
          rcases hq with hq | hq <;> rw [hq] <;> simp
        rw [this]
        exact ext_improper2 old m root n v p w hv hl hs hos hrs h1 h2 h3 hp hq
      | true =>
        obtain ⟨a, rfl⟩ := Int.eq_ofNat_of_zero_le h1
        obtain ⟨b, rfl⟩ := Int.eq_ofNat_of_zero_le (by omega : 0 ≤ n)
        by_cases h0 : a = 0
        · subst h0
          exact ext_zero old root b v p w hv hl hs hos hrs (by omega) hp hq hT
        · exact ext_ok old a root b v p w hv hl hs hos hrs (by omega) (by omega) (by omega) hp hq hT
  · have : extT old m root n p = false := by
      unfold extT
      by_cases h1 : 0 ≤ m
      · by_cases h2 : m ≤ n
        · rw [decide_eq_false (fun h3 : n ≤ 1000000 => hb ⟨h1, h2, h3⟩)]; simp
        · rw [decide_eq_false h2]; simp
      · rw [decide_eq_false h1]; simp
    rw [this]
    exact ext_bad old m root n v p w hv hl hs hos hrs hb
end Go.Proofs.YtlchpdjpnabeiaaGreatDoor
